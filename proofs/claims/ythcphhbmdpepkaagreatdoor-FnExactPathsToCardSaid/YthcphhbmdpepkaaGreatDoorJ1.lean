/- Plain laws: the places of a design, one by one. -/
import Derived.Test.YthcphhbmdpepkaaGreatDoorB7
import Derived.Test.YthcphhbmdpepkaaGreatDoorFw33

namespace Go.Fw
open Go
set_option maxRecDepth 100000

def off (d : qj) (i : Nat) : Nat := (plI d i).length
def place1 (d : qj) (i k : Nat) : Tplace := ⟨(i : Int), (k : Int), at0 (gt d.Instances i).Nets k, decide (k + 1 = (gt d.Instances i).Nets.length)⟩
def place2 (d : qj) (i : Nat) : Tplace := ⟨-1, (i : Int), (gt d.Ports i).Net, (gt d.Ports i).Dir == 1⟩

theorem qkn {d : qj} {i : Nat} : off d (i + 1) = off d i + (gt d.Instances i).Nets.length := by
  unfold off; rw [qi2, List.length_append, qlg]
theorem qh3 {d : qj} : (places d).length = off d d.Instances.length + d.Ports.length := by
  unfold places off; rw [List.length_append, qlf]
theorem qrg {d : qj} {n i k : Nat} (hi : i < n) (hk : k < (gt d.Instances i).Nets.length) : off d i + k < off d n ∧ gt (plI d n) (off d i + k) = place1 d i k := by
  induction n with
  | zero => omega
  | succ n ih =>
    rw [qi2, qkE]
    rcases Nat.lt_succ_iff_lt_or_eq.1 hi with h | rfl
    · obtain ⟨h1, h2⟩ := ih h
      refine ⟨by rw [qkn]; omega, ?_⟩
      rw [if_pos (show off d i + k < (plI d n).length from h1), h2]
    · refine ⟨by rw [qkn]; omega, ?_⟩
      rw [if_neg (by unfold off; omega), show off d i + k - (plI d i).length = k by unfold off; omega]
      exact qnl hk
theorem qix {d : qj} {i k : Nat} (hi : i < d.Instances.length) (hk : k < (gt d.Instances i).Nets.length) : off d i + k < (places d).length ∧ gt (places d) (off d i + k) = place1 d i k := by
  obtain ⟨h1, h2⟩ := qrg hi hk
  refine ⟨by rw [qh3]; omega, ?_⟩
  unfold places
  rw [qkE, if_pos (show off d i + k < (plI d d.Instances.length).length from h1), h2]
theorem qmx {d : qj} {i : Nat} (hi : i < d.Ports.length) : off d d.Instances.length + i < (places d).length ∧ gt (places d) (off d d.Instances.length + i) = place2 d i := by
  refine ⟨by rw [qh3]; omega, ?_⟩
  unfold places
  rw [qkE, if_neg (by unfold off; omega), show off d d.Instances.length + i - (plI d d.Instances.length).length = i by unfold off; omega]
  exact qnl hi
theorem qoR {d : qj} {n j : Nat} (hj : j < off d n) : ∃ i k, i < n ∧ k < (gt d.Instances i).Nets.length ∧ j = off d i + k := by
  induction n with
  | zero => exact absurd hj (Nat.not_lt_zero _)
  | succ n ih =>
    by_cases h : j < off d n
    · obtain ⟨i, k, h1, h2, h3⟩ := ih h
      exact ⟨i, k, by omega, h2, h3⟩
    · rw [qkn] at hj
      exact ⟨n, j - off d n, by omega, by omega, by omega⟩
/-- Every place is a pin of an instance or a port. -/
theorem qeP {d : qj} {j : Nat} (hj : j < (places d).length) :
    (∃ i k, i < d.Instances.length ∧ k < (gt d.Instances i).Nets.length ∧ j = off d i + k ∧ gt (places d) j = place1 d i k) ∨
    (∃ i, i < d.Ports.length ∧ j = off d d.Instances.length + i ∧ gt (places d) j = place2 d i) := by
  rw [qh3] at hj
  by_cases h : j < off d d.Instances.length
  · obtain ⟨i, k, h1, h2, rfl⟩ := qoR h
    exact .inl ⟨i, k, h1, h2, rfl, (qix h1 h2).2⟩
  · refine .inr ⟨j - off d d.Instances.length, by omega, by omega, ?_⟩
    have := (qmx (d := d) (i := j - off d d.Instances.length) (by omega)).2
    rwa [show off d d.Instances.length + (j - off d d.Instances.length) = j by omega] at this

/-! ### Drivers -/

def drvQ (d : qj) (k : Int) (j : Nat) : Bool := ((gt (places d) j).net == k) && (gt (places d) j).drives

theorem qnA {q : Nat → Bool} {m n : Nat} : cntP q (m + n) = cntP q m + cntP (fun j => q (m + j)) n := by
  induction n with
  | zero => rfl
  | succ n ih =>
    show cntP q (m + n) + (bif q (m + n) then 1 else 0) = cntP q m + (cntP (fun j => q (m + j)) n + (bif q (m + n) then 1 else 0))
    rw [ih]; omega
theorem qoQ {q : Nat → Bool} {n : Nat} {b : Bool} (h : 1 ≤ n) (h1 : ∀ j, j + 1 < n → q j = false) (h2 : q (n - 1) = b) : cntP q n = bif b then 1 else 0 := by
  obtain ⟨m, rfl⟩ : ∃ m, n = m + 1 := ⟨n - 1, by omega⟩
  show cntP q m + (bif q m then 1 else 0) = _
  rw [qmn.2 (fun j hj => h1 j (by omega)), show m = m + 1 - 1 by omega, h2, Nat.zero_add]

theorem qn5 {d : qj} {k : Nat} (hs : smallD d) : cntP (drvQ d (k : Int)) (places d).length = drvI d k d.Instances.length + drvP d k d.Ports.length := by
  rw [qh3, qnA]
  congr 1
  · have : ∀ n, n ≤ d.Instances.length → cntP (drvQ d (k : Int)) (off d n) = drvI d k n := by
      intro n
      induction n with
      | zero => intro _; rfl
      | succ n ih =>
        intro hn
        rw [qkn, qnA, ih (by omega), qkq]
        congr 1
        have h2 := (hs.nx n (by omega)).1
        refine qoQ (by omega) (fun j hj => ?_) ?_
        · show drvQ d _ (off d n + j) = false
          unfold drvQ
          rw [(qix (by omega) (by omega)).2]
          unfold place1
          simp; omega
        · show drvQ d _ (off d n + _) = _
          unfold drvQ
          rw [(qix (by omega) (by omega)).2]
          unfold place1 lastN
          simp; omega
    exact this _ (Nat.le_refl _)
  · refine qn7 (fun j hj => ?_)
    show drvQ d _ (off d _ + j) = _
    unfold drvQ
    rw [(qmx hj).2]
    unfold place2
    exact Bool.and_comm _ _

theorem qou {l : qv} {d : qj} (h : designB l d = true) {k : Nat} (hk : k < d.Nets.length) : cntP (drvQ d (k : Int)) (places d).length = 1 := by
  rw [qn5 (qS h)]
  unfold designB drvB at h
  simp only [Bool.and_eq_true] at h
  have := qa8.1 h.2.2.2 k hk
  rw [beq_iff_eq] at this
  omega
theorem qna {l : qv} {d : qj} (h : designB l d = true) {i j : Nat} (hi : i < (places d).length) (hj : j < (places d).length) (he : (gt (places d) i).net = (gt (places d) j).net) (h1 : (gt (places d) i).drives = true) (h2 : (gt (places d) j).drives = true) : i = j := by
  obtain ⟨n0, n1⟩ := qiE h hi
  have e := qlK n0
  have := qou h (k := (gt (places d) i).net.toNat) (by omega)
  refine qnd (Nat.le_of_eq this) hi hj ?_ ?_
  · unfold drvQ; rw [← e, h1]; simp
  · unfold drvQ; rw [← e, h2, he]; simp
theorem qq6 {l : qv} {d : qj} (h : designB l d = true) {k : Int} (h0 : 0 ≤ k) (h1 : k < d.Nets.length) : ∃ j, j < (places d).length ∧ (gt (places d) j).net = k ∧ (gt (places d) j).drives = true := by
  have e := qlK h0
  have := qou h (k := k.toNat) (by omega)
  have hp : decide (0 < cntP (drvQ d ((k.toNat : Nat) : Int)) (places d).length) = true := by rw [this]; rfl
  rw [qnk, Bool.not_eq_true', qiC] at hp
  obtain ⟨j, hj, hq⟩ := hp
  rw [Bool.not_eq_false', ← e] at hq
  unfold drvQ at hq
  simp only [Bool.and_eq_true, beq_iff_eq] at hq
  exact ⟨j, hj, hq.1, hq.2⟩

/-! ### Cells of instances -/

def cellAt (b : ql) (i : Int) : qD := gt b.Library.Cells (gt b.Design.Instances i.toNat).Cell.toNat
theorem qg6 {l : qv} {d : qj} (h : designB l d = true) {i : Nat} (hi : i < d.Instances.length) :
    (0 ≤ (gt d.Instances i).Cell ∧ (gt d.Instances i).Cell < l.Cells.length) ∧ (gt d.Instances i).Nets.length = (gt l.Cells (gt d.Instances i).Cell.toNat).Pins.length ∧ cellB (gt l.Cells (gt d.Instances i).Cell.toNat) = true := by
  unfold designB libB at h
  simp only [Bool.and_eq_true] at h
  obtain ⟨⟨⟨hc, _⟩, _⟩, hI, _⟩ := h
  rw [qhr, qa8] at hI hc
  have := hI i hi
  unfold instB at this
  simp only [Bool.and_eq_true, qc1, beq_iff_eq] at this
  exact ⟨⟨this.1.1, by omega⟩, by omega, hc _ (by omega)⟩
theorem qnC {c : qD} (h : cellB c = true) {j : Nat} (hj : j < c.Arcs.length) : (1 ≤ (gt c.Arcs j).Kind ∧ (gt c.Arcs j).Kind ≤ 5) ∧ (0 ≤ (gt c.Arcs j).From ∧ (gt c.Arcs j).From < (c.Pins.length : Int) - 1) ∧ (0 ≤ (gt c.Arcs j).To ∧ (gt c.Arcs j).To ≤ (c.Pins.length : Int) - 1) ∧ arcS c.Pins (gt c.Arcs j) = true := by
  unfold cellB at h
  simp only [Bool.and_eq_true] at h
  obtain ⟨_, hp, ⟨ha, _⟩, _, _, hk⟩ := h
  have := qa8.1 ha j hj
  rw [Bool.and_eq_true, qpt hp (qmG hk)] at this
  have h1 := this.1
  refine ⟨qmj h1, ?_⟩
  have h2 := h1
  unfold arcS at h2
  simp only [Bool.and_eq_true, qc1] at h2
  refine ⟨⟨h2.1.1.1, by omega⟩, h2.1.2, h1⟩
theorem qjM {c : qD} (h : cellB c = true) : c.Arcs.length ≤ 8 := by
  unfold cellB at h
  simp only [Bool.and_eq_true, decide_eq_true_eq] at h
  exact h.2.2.1.2
theorem qal {b : ql} (h : blockB b = true) : designB b.Library b.Design = true := by
  unfold blockB at h; simp only [Bool.and_eq_true] at h; exact h.1.1
end Go.Fw


namespace Go.Fw
open Go Go.Proofs
open Go.RowKit (Below)
set_option maxRecDepth 100000
def qft (n : Nat) (l : qv) (d : qj) (place : Int) : Option (Tl05Place × Bool) :=
 (qfc n l d).bind fun r1 =>
 bif (!r1) then
  some ((⟨0, 0, 0, false⟩ : Tl05Place), false)
 else
  (qcJ n d).bind fun r2 =>
  (qaq n place 0 (W64 ((r2.length : Int) - 1))).bind fun r3 =>
  bif (!r3) then
   some ((⟨0, 0, 0, false⟩ : Tl05Place), false)
  else
   (idx r2 place).bind fun y1 =>
   some (y1, true)

theorem qha {n : Nat} {w : World} {l : qv} {d : qj} {place : Int} {cs1 : List Value} (ha1 : GoT.R w (old w) l cs1) {cs2 : List Value} (ha2 : GoT.R w (old w) d cs2) {r : (Tl05Place × Bool)} (hF : qft n l d place = some r) : RetV Tryz.prog 94 [GoT.v qv cs1, GoT.v qj cs2, .int .i64 place] w r := by
 obtain ⟨p1, k1, rfl, s1⟩ := qbh ha1
 obtain ⟨p2, k2, p3, k3, p4, k4, rfl, s2, s3, s4⟩ := qao ha2
 refine qe Tryz.func94 rfl (m := 27) rfl rfl (fun h => ?_)
 rw [qft] at hF
 refine zSR (qN h rfl rfl ?_)
 intro w1 bb1 h
 refine qN h rfl rfl ?_
 intro w2 bb2 h
 refine qW qc h rfl rfl rfl ?_
 intro w3 bb3 h
 refine zp1 rfl (zNSSR (zl 2 0 h rfl (zl 1 0 h rfl ?_)))
 obtain ⟨r1, hr1, hF⟩ := qd hF
 refine qp r1 h call67 (qij (h.old ha1) (h.old ha2) hr1) rfl rfl rfl rfl ?_
 intro w4 h
 refine zp1 rfl (qb ?_)
 refine qu rfl hF ?_ ?_ <;> intro hF
 ·refine zSR (r_v (qgF qc [] [] rfl rfl rfl rfl rfl rfl rfl rfl) rfl (zs 0 h rfl ?_))
  intro w5 h
  refine zp1 rfl (qb ?_)
  obtain rfl := qh hF
  exact qae qc (ρ := (Tl05Place × Bool)) [GoT.v Tl05Place [.int .i64 0, .int .i64 0, .int .i64 0, .bool false], GoT.v Bool [.bool false]] h ⟨⟨_, _, _, rfl, rfl, h.box 0 rfl, rfl⟩, rfl, trivial⟩ (PV.done h (qdr h (qaj (S := fun _ => False) (qfT (⟨0, 0, 0, false⟩ : Tl05Place))) (qaf (qaj (S := fun _ => False) rfl)) (by rfl)))
 refine zKSR (zl 1 0 h rfl ?_)
 obtain ⟨r2, hr2, hF⟩ := qd hF
 refine qas r2 h call93 (qee (h.old ha2) hr2) rfl rfl rfl rfl ?_
 intro w6 S1 p5 k5 h
 refine zp1 rfl (zNSSR (zp4 rfl ?_))
 obtain ⟨r3, hr3, hF⟩ := qd hF
 refine qp r3 h call35 (qac hr3) rfl rfl rfl rfl ?_
 intro w7 h
 refine zp1 rfl (qb ?_)
 refine qu rfl hF ?_ ?_ <;> intro hF
 ·refine zSR (r_v (qgF qc [] [] rfl rfl rfl rfl rfl rfl rfl rfl) rfl (zs 1 h rfl ?_))
  intro w8 h
  replace h : SH _ _ [Ch.own S1 (r2 : List Tl05Place) [.slice p5 r2.length k5], Ch.box bb3 [.int .i64 0, .int .i64 0, .int .i64 0, .bool false] 144, Ch.box bb2 [.slice p2 d.Instances.length k2, .slice p3 d.Nets.length k3, .slice p4 d.Ports.length k4] 45, Ch.box bb1 [.slice p1 l.Cells.length k1] 41] := h
  refine zp1 rfl (qb ?_)
  obtain rfl := qh hF
  exact qae qc (ρ := (Tl05Place × Bool)) [GoT.v Tl05Place [.int .i64 0, .int .i64 0, .int .i64 0, .bool false], GoT.v Bool [.bool false]] h ⟨⟨_, _, _, rfl, rfl, h.box 1 rfl, rfl⟩, rfl, trivial⟩ (PV.done h (qdr h (qaj (S := fun _ => False) (qfT (⟨0, 0, 0, false⟩ : Tl05Place))) (qaf (qaj (S := fun _ => False) rfl)) (by rfl)))
 refine zKSR (zp2 rfl ?_)
 obtain ⟨y1, hy1, hF⟩ := qd hF
 have he1 := qf hy1
 obtain ⟨b1, o_1, q1, cs3, hp1, hq1, -, hr4, hc3⟩ := (h.sl 0 rfl).1.at hy1
 obtain rfl := qbI hr4
 refine zx hp1 hq1 ⟨he1.1, qY he1.2.1 (h.sl 0 rfl).2⟩ rfl (zc 0 hc3 rfl (zs 1 h rfl ?_))
 intro w9 h
 refine zp1 rfl (qb ?_)
 obtain rfl := qh hF
 exact qae qc (ρ := (Tl05Place × Bool)) [GoT.v Tl05Place [.int .i64 y1.instance_, .int .i64 y1.pin, .int .i64 y1.net, .bool y1.drives], GoT.v Bool [.bool true]] h ⟨⟨_, _, _, rfl, rfl, h.box 1 rfl, rfl⟩, rfl, trivial⟩ (PV.done h (qdr h (qaj (S := fun _ => False) (qfT y1)) (qaf (qaj (S := fun _ => False) rfl)) (by rfl)))

def qeX (_ : Nat) (b : ql) (a_instance : Int) : Option qD :=
 (idx b.Design.Instances a_instance).bind fun y1 =>
 (idx b.Library.Cells y1.Cell).bind fun y2 =>
 some y2

theorem qiO {n : Nat} {w : World} {A : Nat → Prop} (hA : ∀ b, A b → old w b) {b : ql} {a_instance : Int} {cs1 : List Value} (ha1 : GoT.R w A b cs1) {r : qD} (hF : qeX n b a_instance = some r) : RetG Tryz.prog 98 [GoT.v ql cs1, .int .i64 a_instance] w A r := by
 obtain ⟨p1, k1, p2, k2, p3, k3, p4, k4, p5, k5, rfl, s1, s2, s3, s4, s5⟩ := qag ha1
 have hg := Rg.start hA
 refine qjc Tryz.func98 rfl (m := 17) rfl rfl (fun h => ?_)
 rw [qeX] at hF
 refine zSR (qN h rfl rfl ?_)
 intro w1 bb1 h
 refine qW qc h rfl rfl rfl ?_
 intro w2 bb2 h
 refine zNS ?_
 refine qe5 [] (fun w' => SH w w' [Ch.box bb1 [.slice p1 b.Library.Cells.length k1, .slice p2 b.Design.Instances.length k2, .slice p3 b.Design.Nets.length k3, .slice p4 b.Design.Ports.length k4, .slice p5 b.Wires.length k5] 48]) rfl 13 rfl #[ff, ff, ff, ff, ff, ff, ff, ff, ff, ff, ff, ff, ff] (by kernel_rfl) (fun w3 hb => ?_)
 replace h := h.ext hb
 clear hb
 refine qi 0 rfl #[tt, ff, ff, ff, ff, ff, ff, ff, ff, ff, ff, ff, ff] (by kernel_rfl) (by kernel_rfl) (fun w' hw => v_p qc rfl w') (h.pick [1] rfl) rfl ?_
 refine qi 1 rfl #[tt, tt, ff, ff, ff, ff, ff, ff, ff, ff, ff, ff, ff] (by kernel_rfl) (by kernel_rfl) (fun w' hw => v_p qc rfl w') (h.pick [1] rfl) rfl ?_
 refine qi 2 rfl #[tt, tt, tt, ff, ff, ff, ff, ff, ff, ff, ff, ff, ff] (by kernel_rfl) (by kernel_rfl) (fun w' hw => qbj qc (hw.box 0 rfl) (j := 0) rfl rfl rfl) (h.pick [1] rfl) rfl ?_
 refine qi 3 rfl #[tt, tt, tt, tt, ff, ff, ff, ff, ff, ff, ff, ff, ff] (by kernel_rfl) (by kernel_rfl) (fun w' hw => v_p qc rfl w') (h.pick [1] rfl) rfl ?_
 refine qi 4 rfl #[tt, tt, tt, tt, tt, ff, ff, ff, ff, ff, ff, ff, ff] (by kernel_rfl) (by kernel_rfl) (fun w' hw => v_p qc rfl w') (h.pick [1] rfl) rfl ?_
 refine qi 5 rfl #[tt, tt, tt, tt, tt, tt, ff, ff, ff, ff, ff, ff, ff] (by kernel_rfl) (by kernel_rfl) (fun w' hw => qbj qc (hw.box 0 rfl) (j := 1) rfl rfl rfl) (h.pick [1] rfl) rfl ?_
 refine qi 6 rfl #[tt, tt, tt, tt, tt, tt, tt, ff, ff, ff, ff, ff, ff] (by kernel_rfl) (by kernel_rfl) (fun w' hw => v_p qc rfl w') (h.pick [1] rfl) rfl ?_
 obtain ⟨y1, hy1, hF⟩ := qd hF
 have he1 := qf hy1
 obtain ⟨b1, o_1, q1, cs2, hp1, hq1, -, hr1, hc1⟩ := s2.at hy1
 obtain ⟨p6, k6, rfl, s6⟩ := qV hr1
 refine qi 7 rfl #[tt, tt, tt, tt, tt, tt, tt, tt, ff, ff, ff, ff, ff] (by kernel_rfl) (by kernel_rfl) (fun w' hw => qeG qc hp1 hq1 ⟨he1.1, he1.2.1⟩ rfl rfl rfl rfl rfl rfl) (h.pick [1] rfl) rfl ?_
 refine qi 8 rfl #[tt, tt, tt, tt, tt, tt, tt, tt, tt, ff, ff, ff, ff] (by kernel_rfl) (by kernel_rfl) (fun w' hw => v_p qc rfl w') (h.pick [1] rfl) rfl ?_
 refine qi 9 rfl #[tt, tt, tt, tt, tt, tt, tt, tt, tt, tt, ff, ff, ff] (by kernel_rfl) (by kernel_rfl) (fun w' hw => qbj qc (hc1.below hw.below) (j := 1) rfl rfl rfl) (h.pick [1] rfl) rfl ?_
 obtain ⟨y2, hy2, hF⟩ := qd hF
 have he2 := qf hy2
 obtain ⟨b2, o_2, q2, cs3, hp2, hq2, -, hr2, hc2⟩ := s1.at hy2
 obtain ⟨p7, k7, p8, k8, p9, k9, rfl, s7, s8, s9⟩ := qU hr2
 refine qi 10 rfl #[tt, tt, tt, tt, tt, tt, tt, tt, tt, tt, tt, ff, ff] (by kernel_rfl) (by kernel_rfl) (fun w' hw => qeG qc hp2 hq2 ⟨he2.1, he2.2.1⟩ rfl rfl rfl rfl rfl rfl) (h.pick [1] rfl) rfl ?_
 refine qi 11 rfl #[tt, tt, tt, tt, tt, tt, tt, tt, tt, tt, tt, tt, ff] (by kernel_rfl) (by kernel_rfl) (fun w' hw => qbj qc (hc2.below hw.below) (j := 0) rfl rfl rfl) (h.pick [1] rfl) rfl ?_
 refine qax 12 rfl #[tt, tt, tt, tt, tt, tt, tt, tt, tt, tt, tt, tt, tt] (by kernel_rfl) (by kernel_rfl) ?_
 refine zs 0 h rfl ?_
 intro w4 h
 replace h : SH _ _ [Ch.box bb2 [.string y2.Name, .int .i64 y2.Kind, .slice p7 y2.Pins.length k7, .slice p8 y2.Arcs.length k8, .slice p9 y2.Truth.length k9, .int .i64 y2.Leak, .int .i64 y2.Energy] 155, Ch.box bb1 [.slice p1 b.Library.Cells.length k1, .slice p2 b.Design.Instances.length k2, .slice p3 b.Design.Nets.length k3, .slice p4 b.Design.Ports.length k4, .slice p5 b.Wires.length k5] 48] := h
 refine qan (fun _ => (h.pick [1] rfl)) ?_
 refine qdm (by kernel_rfl) ?_
 obtain rfl := qh hF
 have hv1 : GoRs.Rs _ (reg A w _) y2 [GoT.v qD [.string y2.Name, .int .i64 y2.Kind, .slice p7 y2.Pins.length k7, .slice p8 y2.Arcs.length k8, .slice p9 y2.Truth.length k9, .int .i64 y2.Leak, .int .i64 y2.Energy]] := ⟨_, rfl, (hg.outR h (qgi y2 (hg.inS h s7) (hg.inS h s8) (hg.inS h s9)))⟩
 exact qnI qc (ρ := qD) (r := y2) [GoT.v qD [.string y2.Name, .int .i64 y2.Kind, .slice p7 y2.Pins.length k7, .slice p8 y2.Arcs.length k8, .slice p9 y2.Truth.length k9, .int .i64 y2.Leak, .int .i64 y2.Energy]] h ⟨⟨_, _, _, rfl, rfl, h.box 0 rfl, rfl⟩, trivial⟩ hv1

def qes (n : Nat) (b : ql) (place : Int) : Option Bool :=
 (qft n (⟨b.Library.Cells⟩ : qv) (⟨b.Design.Instances, b.Design.Nets, b.Design.Ports⟩ : qj) place).bind fun o => match o with
  | (r2, _) =>
   bif decide (r2.instance_ ≥ 0) then
    (qeX n b r2.instance_).bind fun r4 =>
    (idx r4.Pins r2.pin).bind fun y1 =>
    some y1.Clock
   else
    some false

theorem qgU {n : Nat} {w : World} {b : ql} {place : Int} {cs1 : List Value} (ha1 : GoT.R w (old w) b cs1) {r : Bool} (hF : qes n b place = some r) : RetV Tryz.prog 95 [GoT.v ql cs1, .int .i64 place] w r := by
 obtain ⟨p1, k1, p2, k2, p3, k3, p4, k4, p5, k5, rfl, s1, s2, s3, s4, s5⟩ := qag ha1
 refine qe Tryz.func95 rfl (m := 31) rfl rfl (fun h => ?_)
 rw [qes] at hF
 refine zSR (qN h rfl rfl ?_)
 intro w1 bb1 h
 refine zp1 rfl (zNSR (zp1 rfl (zl 0 0 h rfl (zp1 rfl (zl 0 1 h rfl (zp1 rfl ?_))))))
 obtain ⟨r1, hr1, hF⟩ := qd hF
 obtain ⟨r2, r3⟩ := r1
 refine qf7 (r2, r3) h call94 (qha (qcI (⟨b.Library.Cells⟩ : qv) (h.oldS s1)) (qaS (⟨b.Design.Instances, b.Design.Nets, b.Design.Ports⟩ : qj) (h.oldS s2) (h.oldS s3) (h.oldS s4)) hr1) rfl rfl rfl rfl ?_
 intro w2 S1 us1 hv1 hr2
 obtain ⟨S2, S3, cs2, us2, rfl, hv2, hr3⟩ := hv1.cons hr2
 obtain rfl := qbI (hv2.sh.own 0 rfl)
 obtain ⟨rfl, h⟩ := hv2.lastB hr3
 refine zp3 rfl (qW qc h rfl rfl rfl ?_)
 intro w3 bb2 h
 refine zs 0 h rfl ?_
 intro w4 h
 refine zp1 rfl (zNS ?_)
 refine qe5 [] (fun w' => SH w w' [Ch.box bb2 [.int .i64 r2.instance_, .int .i64 r2.pin, .int .i64 r2.net, .bool r2.drives] 144, Ch.box bb1 [.slice p1 b.Library.Cells.length k1, .slice p2 b.Design.Instances.length k2, .slice p3 b.Design.Nets.length k3, .slice p4 b.Design.Ports.length k4, .slice p5 b.Wires.length k5] 48]) rfl 16 rfl #[ff, ff, ff, ff, ff, ff, ff, ff, ff, ff, ff, ff, ff, ff, ff, ff] (by kernel_rfl) (fun w5 hb => ?_)
 replace h := h.ext hb
 clear hb
 refine qi 0 rfl #[tt, ff, ff, ff, ff, ff, ff, ff, ff, ff, ff, ff, ff, ff, ff, ff] (by kernel_rfl) (by kernel_rfl) (fun w' hw => v_p qc rfl w') (h.pick [0, 2] rfl) rfl ?_
 refine qi 1 rfl #[tt, tt, ff, ff, ff, ff, ff, ff, ff, ff, ff, ff, ff, ff, ff, ff] (by kernel_rfl) (by kernel_rfl) (fun w' hw => qbj qc (hw.box 0 rfl) (j := 0) rfl rfl rfl) (h.pick [0, 2] rfl) rfl ?_
 refine qi 2 rfl #[tt, tt, tt, ff, ff, ff, ff, ff, ff, ff, ff, ff, ff, ff, ff, ff] (by kernel_rfl) (by kernel_rfl) (fun w' hw => v_p qc rfl w') (h.pick [0, 2] rfl) rfl ?_
 refine qi 3 rfl #[tt, tt, tt, tt, ff, ff, ff, ff, ff, ff, ff, ff, ff, ff, ff, ff] (by kernel_rfl) (by kernel_rfl) (fun w' hw => v_p qc rfl w') (h.pick [0, 2] rfl) rfl ?_
 by_cases hc1 : (decide (r2.instance_ ≥ 0)) = true
 ·replace hF := bifT hc1 hF
  refine qre hc1 (t := 19) rfl ?_
  refine qia 4 rfl (by kernel_rfl) #[tt, tt, tt, tt, tt, ff, ff, ff, ff, ff, ff, ff, ff, ff, ff, ff] (by kernel_rfl) (by kernel_rfl) (fun w' hw => qbj qc (hw.box 1 rfl) (j := 0) rfl rfl rfl) (h.pick [0, 2] rfl) rfl ?_
  refine qia 5 rfl (by kernel_rfl) #[tt, tt, tt, tt, tt, tt, ff, ff, ff, ff, ff, ff, ff, ff, ff, ff] (by kernel_rfl) (by kernel_rfl) (fun w' hw => v_p qc rfl w') (h.pick [0, 2] rfl) rfl ?_
  refine qia 6 rfl (by kernel_rfl) #[tt, tt, tt, tt, tt, tt, tt, ff, ff, ff, ff, ff, ff, ff, ff, ff] (by kernel_rfl) (by kernel_rfl) (fun w' hw => qbj qc (hw.box 0 rfl) (j := 0) rfl rfl rfl) (h.pick [0, 2] rfl) rfl ?_
  refine qia 9 rfl (by kernel_rfl) #[tt, tt, tt, tt, tt, tt, tt, ff, ff, tt, ff, ff, ff, ff, ff, ff] (by kernel_rfl) (by kernel_rfl) (fun w' hw => v_p qc rfl w') (h.pick [0, 2] rfl) rfl ?_
  refine qia 10 rfl (by kernel_rfl) #[tt, tt, tt, tt, tt, tt, tt, ff, ff, tt, tt, ff, ff, ff, ff, ff] (by kernel_rfl) (by kernel_rfl) (fun w' hw => qbj qc (hw.box 0 rfl) (j := 1) rfl rfl rfl) (h.pick [0, 2] rfl) rfl ?_
  refine qax 7 rfl #[tt, tt, tt, tt, tt, tt, tt, tt, ff, tt, tt, ff, ff, ff, ff, ff] (by kernel_rfl) (by kernel_rfl) ?_
  refine qa rfl ?_
  have hg1 : Rg (old w) w (old w) w := .start (fun _ h => h)
  obtain ⟨r4, hr5, hF⟩ := qd hF
  refine qli r4 hg1 h call98 (qiO (hg1.atB h) (hg1.inBR h ha1) hr5) rfl rfl rfl rfl ?_
  intro w6 us3 S5 h hv4
  obtain ⟨cs3, rfl, hr6⟩ := qlP hv4
  have hr7 := hr6
  obtain ⟨p6, k6, p7, k7, p8, k8, rfl, s6, s7, s8⟩ := qU hr6
  replace h := h.grpAdd 0 rfl hr7
  refine qan (fun _ => (h.pick [1, 3] rfl)) ?_
  refine qia 8 rfl (by kernel_rfl) #[tt, tt, tt, tt, tt, tt, tt, tt, tt, tt, tt, ff, ff, ff, ff, ff] (by kernel_rfl) (by kernel_rfl) (fun w' hw => v_p qc rfl w') (h.pick [1, 3] rfl) rfl ?_
  obtain ⟨y1, hy1, hF⟩ := qd hF
  have he1 := qf hy1
  obtain ⟨b1, o_1, q1, cs4, hp1, hq1, -, hr8, hc2⟩ := (qg7 (h.grp 0 0 rfl rfl)).1.1.at hy1
  obtain rfl := qbg hr8
  refine qia 11 rfl (by kernel_rfl) #[tt, tt, tt, tt, tt, tt, tt, tt, tt, tt, tt, tt, ff, ff, ff, ff] (by kernel_rfl) (by kernel_rfl) (fun w' hw => qeG qc hp1 hq1 ⟨he1.1, qY he1.2.1 (qg7 (h.grp 0 0 rfl rfl)).1.2⟩ rfl rfl rfl rfl rfl rfl) (h.pick [1, 3] rfl) rfl ?_
  refine qia 12 rfl (by kernel_rfl) #[tt, tt, tt, tt, tt, tt, tt, tt, tt, tt, tt, tt, tt, ff, ff, ff] (by kernel_rfl) (by kernel_rfl) (fun w' hw => v_p qc rfl w') (h.pick [1, 3] rfl) rfl ?_
  refine qax 13 rfl #[tt, tt, tt, tt, tt, tt, tt, tt, tt, tt, tt, tt, tt, tt, ff, ff] (by kernel_rfl) (by kernel_rfl) ?_
  refine qa rfl (zc 3 hc2 rfl ?_)
  refine qan (fun _ => (h.pick [1, 3] rfl)) ?_
  refine qi 14 rfl #[tt, tt, tt, tt, tt, tt, tt, tt, tt, tt, tt, tt, tt, tt, tt, ff] (by kernel_rfl) (by kernel_rfl) (fun w' hw => v_p qc rfl w') (h.pick [1, 3] rfl) rfl ?_
  refine qi 15 rfl #[tt, tt, tt, tt, tt, tt, tt, tt, tt, tt, tt, tt, tt, tt, tt, tt] (by kernel_rfl) (by kernel_rfl) (fun w' hw => v_p qc rfl w') (h.pick [1, 3] rfl) rfl ?_
  refine qdm (by kernel_rfl) ?_
  replace h := h.pick [1, 2, 3] rfl
  exact qz qc h hF ⟨rfl, trivial⟩
 replace hc1 := zb hc1
 replace hF := bifF hc1 hF
 refine qri hc1 (t := 19) rfl ?_
 refine qjJ 4 rfl (by kernel_rfl) rfl #[tt, tt, tt, tt, tt, ff, ff, ff, ff, ff, ff, ff, ff, ff, ff, ff] (by kernel_rfl) (by kernel_rfl) (h.pick [0, 2] rfl) rfl ?_
 refine qjJ 5 rfl (by kernel_rfl) rfl #[tt, tt, tt, tt, tt, tt, ff, ff, ff, ff, ff, ff, ff, ff, ff, ff] (by kernel_rfl) (by kernel_rfl) (h.pick [0, 2] rfl) rfl ?_
 refine qjJ 6 rfl (by kernel_rfl) rfl #[tt, tt, tt, tt, tt, tt, tt, ff, ff, ff, ff, ff, ff, ff, ff, ff] (by kernel_rfl) (by kernel_rfl) (h.pick [0, 2] rfl) rfl ?_
 refine qjJ 7 rfl (by kernel_rfl) rfl #[tt, tt, tt, tt, tt, tt, tt, tt, ff, ff, ff, ff, ff, ff, ff, ff] (by kernel_rfl) (by kernel_rfl) (h.pick [0, 2] rfl) rfl ?_
 refine qjJ 8 rfl (by kernel_rfl) rfl #[tt, tt, tt, tt, tt, tt, tt, tt, tt, ff, ff, ff, ff, ff, ff, ff] (by kernel_rfl) (by kernel_rfl) (h.pick [0, 2] rfl) rfl ?_
 refine qjJ 9 rfl (by kernel_rfl) rfl #[tt, tt, tt, tt, tt, tt, tt, tt, tt, tt, ff, ff, ff, ff, ff, ff] (by kernel_rfl) (by kernel_rfl) (h.pick [0, 2] rfl) rfl ?_
 refine qjJ 10 rfl (by kernel_rfl) rfl #[tt, tt, tt, tt, tt, tt, tt, tt, tt, tt, tt, ff, ff, ff, ff, ff] (by kernel_rfl) (by kernel_rfl) (h.pick [0, 2] rfl) rfl ?_
 refine qjJ 11 rfl (by kernel_rfl) rfl #[tt, tt, tt, tt, tt, tt, tt, tt, tt, tt, tt, tt, ff, ff, ff, ff] (by kernel_rfl) (by kernel_rfl) (h.pick [0, 2] rfl) rfl ?_
 refine qjJ 12 rfl (by kernel_rfl) rfl #[tt, tt, tt, tt, tt, tt, tt, tt, tt, tt, tt, tt, tt, ff, ff, ff] (by kernel_rfl) (by kernel_rfl) (h.pick [0, 2] rfl) rfl ?_
 refine qjJ 13 rfl (by kernel_rfl) rfl #[tt, tt, tt, tt, tt, tt, tt, tt, tt, tt, tt, tt, tt, tt, ff, ff] (by kernel_rfl) (by kernel_rfl) (h.pick [0, 2] rfl) rfl ?_
 refine qi 14 rfl #[tt, tt, tt, tt, tt, tt, tt, tt, tt, tt, tt, tt, tt, tt, tt, ff] (by kernel_rfl) (by kernel_rfl) (fun w' hw => v_p qc rfl w') (h.pick [0, 2] rfl) rfl ?_
 refine qi 15 rfl #[tt, tt, tt, tt, tt, tt, tt, tt, tt, tt, tt, tt, tt, tt, tt, tt] (by kernel_rfl) (by kernel_rfl) (fun w' hw => v_p qc rfl w') (h.pick [0, 2] rfl) rfl ?_
 refine qdm (by kernel_rfl) ?_
 exact qz qc h hF ⟨rfl, trivial⟩

def qe4 (n : Nat) (l : qv) (d : qj) (place : Int) : Option Int :=
 (qft n l d place).bind fun o => match o with
  | (r2, r3) =>
   bif (!r3) then
    some (-1)
   else
    some r2.net

theorem qjL {n : Nat} {w : World} {l : qv} {d : qj} {place : Int} {cs1 : List Value} (ha1 : GoT.R w (old w) l cs1) {cs2 : List Value} (ha2 : GoT.R w (old w) d cs2) {r : Int} (hF : qe4 n l d place = some r) : RetV Tryz.prog 96 [GoT.v qv cs1, GoT.v qj cs2, .int .i64 place] w r := by
 obtain ⟨p1, k1, rfl, s1⟩ := qbh ha1
 obtain ⟨p2, k2, p3, k3, p4, k4, rfl, s2, s3, s4⟩ := qao ha2
 refine qe Tryz.func96 rfl (m := 20) rfl rfl (fun h => ?_)
 rw [qe4] at hF
 refine zSR (qN h rfl rfl ?_)
 intro w1 bb1 h
 refine qN h rfl rfl ?_
 intro w2 bb2 h
 refine zp1 rfl (zNSR (zl 1 0 h rfl (zl 0 0 h rfl (zp1 rfl ?_))))
 obtain ⟨r1, hr1, hF⟩ := qd hF
 obtain ⟨r2, r3⟩ := r1
 refine qf7 (r2, r3) h call94 (qha (h.old ha1) (h.old ha2) hr1) rfl rfl rfl rfl ?_
 intro w3 S1 us1 hv1 hr2
 obtain ⟨S2, S3, cs3, us2, rfl, hv2, hr3⟩ := hv1.cons hr2
 obtain rfl := qbI (hv2.sh.own 0 rfl)
 obtain ⟨rfl, h⟩ := hv2.lastB hr3
 refine zp3 rfl (qW qc h rfl rfl rfl ?_)
 intro w4 bb3 h
 refine zs 0 h rfl ?_
 intro w5 h
 refine zp1 rfl (zNSSR (zp2 rfl (qb ?_)))
 refine qu rfl hF ?_ ?_ <;> intro hF
 ·exact zSR (zp1 rfl (qb (qaH qc h hF ⟨rfl, trivial⟩)))
 exact zKSR (zp1 rfl (zl 0 2 h rfl (zp1 rfl (qb (qaH qc h hF ⟨rfl, trivial⟩)))))

def qbD (net : Int) (r1 : (List Tl05Place)) : Nat → Int → Option (Flow Int Int)
 | 0, _ => none
 | n + 1, i1 =>
  bif decide (i1 < (r1.length : Int)) then
   (idx r1 i1).bind fun y1 =>
   bif (y1.net == net) then
    (idx r1 i1).bind fun y2 =>
    bif y2.drives then
     some (.ret i1)
    else
     qbD net r1 n (W64 (i1 + 1))
   else
    qbD net r1 n (W64 (i1 + 1))
  else
   some (.nxt i1)

def qfr (n : Nat) (d : qj) (net : Int) : Option Int :=
 (qcJ n d).bind fun r1 =>
 (qbD net r1 n 0).bind fun o => match o with
 | .ret r => some r
 | .nxt _ =>
  some (-1)

theorem qko {n : Nat} {w : World} {d : qj} {net : Int} {cs1 : List Value} (ha1 : GoT.R w (old w) d cs1) {r : Int} (hF : qfr n d net = some r) : RetV Tryz.prog 97 [GoT.v qj cs1, .int .i64 net] w r := by
 obtain ⟨p1, k1, p2, k2, p3, k3, rfl, s1, s2, s3⟩ := qao ha1
 refine qe Tryz.func97 rfl (m := 30) rfl rfl (fun h => ?_)
 rw [qfr] at hF
 refine zSR (qN h rfl rfl ?_)
 intro w1 bb1 h
 refine zp1 rfl (zNSR (zl 0 0 h rfl ?_))
 obtain ⟨r1, hr1, hF⟩ := qd hF
 refine qas r1 h call93 (qee (h.old ha1) hr1) rfl rfl rfl rfl ?_
 intro w2 S1 p4 k4 h
 refine zp1 rfl (zNSSR (zp1 rfl (qb ?_)))
 obtain ⟨o1, hF, hK1⟩ := qd hF
 refine qw ?_
 replace h := h.pick [0] rfl
 refine qP [(1, _), (5, _), (6, _)] ⟨rfl, rfl, rfl, trivial⟩ ?_
 refine qF (fun m e w' => ∃ (i1 : Int), qbD net r1 m i1 = some o1 ∧ e = [(1, .int .i64 net), (5, .slice p4 r1.length k4), (6, .int .i64 i1)] ∧ SH w w' [Ch.own S1 (r1 : List Tl05Place) [.slice p4 r1.length k4]]) n ⟨_, hF, rfl, h⟩ ?_
 rintro m1 e1 w3 ⟨i1, hF, rfl, h⟩
 rcases m1 with _ | m1
 ·rw [qbD] at hF
  cases hF
 rw [qbD] at hF
 refine zSSR (zp4 rfl (qb ?_))
 refine qu rfl hF ?_ ?_ <;> intro hF
 ·refine zKSBSR (zp2 rfl ?_)
  obtain ⟨y1, hy1, hF⟩ := qd hF
  have he1 := qf hy1
  obtain ⟨b1, o_1, q1, cs2, hp1, hq1, -, hr2, hc2⟩ := (h.sl 0 rfl).1.at hy1
  obtain rfl := qbI hr2
  refine zx hp1 hq1 ⟨he1.1, qY he1.2.1 (h.sl 0 rfl).2⟩ rfl (zp1 rfl (zc 2 hc2 rfl (zp3 rfl ?_)))
  by_cases hc3 : (y1.net == net) = true
  ·replace hF := bifT hc3 hF
   refine qB hc3 (t := 22) rfl (qa rfl (zp1 rfl (qa rfl (zp1 rfl (qa rfl ?_)))))
   obtain ⟨y2, hy2, hF⟩ := qd hF
   have he2 := qf hy2
   obtain ⟨b2, o_2, q2, cs3, hp2, hq2, -, hr3, hc4⟩ := (h.sl 0 rfl).1.at hy2
   obtain rfl := qbI hr3
   refine zx hp2 hq2 ⟨he2.1, qY he2.2.1 (h.sl 0 rfl).2⟩ rfl (qa rfl (zp1 rfl (qa rfl (zc 3 hc4 rfl (zp1 rfl (qb ?_))))))
   refine qu rfl hF ?_ ?_ <;> intro hF
   ·refine zSR (zp2 rfl (qb ?_))
    obtain rfl := qh hF; replace hF := hK1
    exact qaH qc h hF ⟨rfl, trivial⟩
   exact zKER (zp3 rfl (qb (qx m1 [(1, _), (5, _), (6, _)] (Nat.lt_succ_self m1) ⟨rfl, rfl, rfl, trivial⟩ ⟨_, hF, rfl, h⟩)))
  replace hc3 := zb hc3
  replace hF := bifF hc3 hF
  refine qC hc3 (t := 22) rfl (zn5 rfl (zp1 rfl (qb (qdY rfl rfl (zKER ?_)))))
  exact zp3 rfl (qb (qx m1 [(1, _), (5, _), (6, _)] (Nat.lt_succ_self m1) ⟨rfl, rfl, rfl, trivial⟩ ⟨_, hF, rfl, h⟩))
 refine qE rfl ?_
 obtain rfl := qh hF; replace hF := hK1
 exact zSR (zp1 rfl (qb (qaH qc h hF ⟨rfl, trivial⟩)))

def qci (a_instance : Int) (pin : Int) (r1 : (List Tl05Place)) : Nat → Int → Option (Flow Int Int)
 | 0, _ => none
 | n + 1, i1 =>
  bif decide (i1 < (r1.length : Int)) then
   (idx r1 i1).bind fun y1 =>
   bif (y1.instance_ == a_instance) then
    (idx r1 i1).bind fun y2 =>
    bif (y2.pin == pin) then
     some (.ret i1)
    else
     qci a_instance pin r1 n (W64 (i1 + 1))
   else
    qci a_instance pin r1 n (W64 (i1 + 1))
  else
   some (.nxt i1)

def qfC (n : Nat) (d : qj) (a_instance : Int) (pin : Int) : Option Int :=
 (qcJ n d).bind fun r1 =>
 (qci a_instance pin r1 n 0).bind fun o => match o with
 | .ret r => some r
 | .nxt _ =>
  some (-1)

theorem qk0 {n : Nat} {w : World} {d : qj} {a_instance : Int} {pin : Int} {cs1 : List Value} (ha1 : GoT.R w (old w) d cs1) {r : Int} (hF : qfC n d a_instance pin = some r) : RetV Tryz.prog 99 [GoT.v qj cs1, .int .i64 a_instance, .int .i64 pin] w r := by
 obtain ⟨p1, k1, p2, k2, p3, k3, rfl, s1, s2, s3⟩ := qao ha1
 refine qe Tryz.func99 rfl (m := 34) rfl rfl (fun h => ?_)
 rw [qfC] at hF
 refine zSR (qN h rfl rfl ?_)
 intro w1 bb1 h
 refine zp1 rfl (zNSR (zl 0 0 h rfl ?_))
 obtain ⟨r1, hr1, hF⟩ := qd hF
 refine qas r1 h call93 (qee (h.old ha1) hr1) rfl rfl rfl rfl ?_
 intro w2 S1 p4 k4 h
 refine zp1 rfl (zNSSR (zp1 rfl (qb ?_)))
 obtain ⟨o1, hF, hK1⟩ := qd hF
 refine qw ?_
 replace h := h.pick [0] rfl
 refine qP [(1, _), (2, _), (7, _), (8, _)] ⟨rfl, rfl, rfl, rfl, trivial⟩ ?_
 refine qF (fun m e w' => ∃ (i1 : Int), qci a_instance pin r1 m i1 = some o1 ∧ e = [(1, .int .i64 a_instance), (2, .int .i64 pin), (7, .slice p4 r1.length k4), (8, .int .i64 i1)] ∧ SH w w' [Ch.own S1 (r1 : List Tl05Place) [.slice p4 r1.length k4]]) n ⟨_, hF, rfl, h⟩ ?_
 rintro m1 e1 w3 ⟨i1, hF, rfl, h⟩
 rcases m1 with _ | m1
 ·rw [qci] at hF
  cases hF
 rw [qci] at hF
 refine zSSR (zp4 rfl (qb ?_))
 refine qu rfl hF ?_ ?_ <;> intro hF
 ·refine zKSBSR (zp2 rfl ?_)
  obtain ⟨y1, hy1, hF⟩ := qd hF
  have he1 := qf hy1
  obtain ⟨b1, o_1, q1, cs2, hp1, hq1, -, hr2, hc2⟩ := (h.sl 0 rfl).1.at hy1
  obtain rfl := qbI hr2
  refine zx hp1 hq1 ⟨he1.1, qY he1.2.1 (h.sl 0 rfl).2⟩ rfl (zp1 rfl (zc 0 hc2 rfl (zp3 rfl ?_)))
  by_cases hc3 : (y1.instance_ == a_instance) = true
  ·replace hF := bifT hc3 hF
   refine qB hc3 (t := 24) rfl (qa rfl (zp1 rfl (qa rfl (zp1 rfl (qa rfl ?_)))))
   obtain ⟨y2, hy2, hF⟩ := qd hF
   have he2 := qf hy2
   obtain ⟨b2, o_2, q2, cs3, hp2, hq2, -, hr3, hc4⟩ := (h.sl 0 rfl).1.at hy2
   obtain rfl := qbI hr3
   refine zx hp2 hq2 ⟨he2.1, qY he2.2.1 (h.sl 0 rfl).2⟩ rfl (qa rfl (zp1 rfl (qa rfl (zc 1 hc4 rfl (qa rfl (zp1 rfl (qa rfl (zp2 rfl (qb ?_)))))))))
   refine qu rfl hF ?_ ?_ <;> intro hF
   ·refine zSR (zp2 rfl (qb ?_))
    obtain rfl := qh hF; replace hF := hK1
    exact qaH qc h hF ⟨rfl, trivial⟩
   exact zKER (zp3 rfl (qb (qx m1 [(1, _), (2, _), (7, _), (8, _)] (Nat.lt_succ_self m1) ⟨rfl, rfl, rfl, rfl, trivial⟩ ⟨_, hF, rfl, h⟩)))
  replace hc3 := zb hc3
  replace hF := bifF hc3 hF
  refine qC hc3 (t := 24) rfl (zn5 rfl (zn2 rfl (zp1 rfl (qb (qdY rfl rfl (qeq ?_))))))
  exact qd1 (qA (zp3 rfl (qb (qx m1 [(1, _), (2, _), (7, _), (8, _)] (Nat.lt_succ_self m1) ⟨rfl, rfl, rfl, rfl, trivial⟩ ⟨_, hF, rfl, h⟩))))
 refine qE rfl ?_
 obtain rfl := qh hF; replace hF := hK1
 exact zSR (zp1 rfl (qb (qaH qc h hF ⟨rfl, trivial⟩)))

def qbs (a_0 : ql) (r6 : (List Int)) : Nat → (List Int) → Int → Option ((List Int) × Int)
 | 0, _, _ => none
 | n + 1, x1, i1 =>
  bif decide (i1 < (r6.length : Int)) then
   (idx r6 i1).bind fun y1 =>
   (qes n a_0 y1).bind fun r7 =>
   bif (!r7) then
    (idx r6 i1).bind fun y2 =>
    (appS x1 ([y2] : List Int)).bind fun x2 =>
    qbs a_0 r6 n x2 (W64 (i1 + 1))
   else
    qbs a_0 r6 n x1 (W64 (i1 + 1))
  else
   some (x1, i1)

def qcs (a_0 : ql) (r2 : Tl05Place) (r8 : qD) : Nat → Int → Option (Flow (List Int) Int)
 | 0, _ => none
 | n + 1, i2 =>
  bif decide (i2 < (r8.Arcs.length : Int)) then
   (
    (idx r8.Arcs i2).bind fun y3 =>
    bif (y3.From == r2.pin) then
     (idx r8.Arcs i2).bind fun y4 =>
     some (decide (y4.Kind ≤ 3))
    else
     some false).bind fun b3 =>
   bif b3 then
    (qfC n (⟨a_0.Design.Instances, a_0.Design.Nets, a_0.Design.Ports⟩ : qj) r2.instance_ (W64 ((r8.Pins.length : Int) - 1))).bind fun r9 =>
    some (.ret ([r9] : List Int))
   else
    qcs a_0 r2 r8 n (W64 (i2 + 1))
  else
   some (.nxt i2)

def qet (n : Nat) (a_0 : ql) (a_1 : Int) : Option (List Int) :=
 (qft n (⟨a_0.Library.Cells⟩ : qv) (⟨a_0.Design.Instances, a_0.Design.Nets, a_0.Design.Ports⟩ : qj) a_1).bind fun o => match o with
  | (r2, _) =>
   (qe4 n (⟨a_0.Library.Cells⟩ : qv) (⟨a_0.Design.Instances, a_0.Design.Nets, a_0.Design.Ports⟩ : qj) a_1).bind fun r4 =>
   (qfr n (⟨a_0.Design.Instances, a_0.Design.Nets, a_0.Design.Ports⟩ : qj) r4).bind fun r5 =>
   bif (r5 == a_1) then
    (qfb n (⟨a_0.Design.Instances, a_0.Design.Nets, a_0.Design.Ports⟩ : qj) r4).bind fun r6 =>
    (qbs a_0 r6 n ([] : List Int) 0).bind fun o => match o with
    | (x1, _) =>
     some x1
   else
    bif decide (r2.instance_ < 0) then
     some ([] : List Int)
    else
     (qeX n a_0 r2.instance_).bind fun r8 =>
     (qcs a_0 r2 r8 n 0).bind fun o => match o with
     | .ret r => some r
     | .nxt _ =>
      some ([] : List Int)

theorem qg5 {n : Nat} {w : World} {a_0 : ql} {a_1 : Int} {cs1 : List Value} (ha1 : GoT.R w (old w) a_0 cs1) {r : (List Int)} (hF : qet n a_0 a_1 = some r) : RetV Tryz.prog 50 [GoT.v ql cs1, .int .i64 a_1] w r := by
 obtain ⟨p1, k1, p2, k2, p3, k3, p4, k4, p5, k5, rfl, s1, s2, s3, s4, s5⟩ := qag ha1
 refine qe Tryz.func50 rfl (m := 104) rfl rfl (fun h => ?_)
 rw [qet] at hF
 refine zSR (qN h rfl rfl ?_)
 intro w1 bb1 h
 refine zp1 rfl (zNSR (qat qc [] _ ([] : List Int) h rfl rfl rfl rfl rfl rfl rfl rfl rfl trivial rfl ?_))
 intro w2 p6 S1 h
 refine zp1 rfl (zNSR (zp1 rfl (zl 1 0 h rfl (zp1 rfl (zl 1 1 h rfl (zp1 rfl ?_))))))
 obtain ⟨r1, hr1, hF⟩ := qd hF
 obtain ⟨r2, r3⟩ := r1
 refine qf7 (r2, r3) h call94 (qha (qcI (⟨a_0.Library.Cells⟩ : qv) (h.oldS s1)) (qaS (⟨a_0.Design.Instances, a_0.Design.Nets, a_0.Design.Ports⟩ : qj) (h.oldS s2) (h.oldS s3) (h.oldS s4)) hr1) rfl rfl rfl rfl ?_
 intro w3 S2 us1 hv1 hr2
 obtain ⟨S3, S4, cs2, us2, rfl, hv2, hr3⟩ := hv1.cons hr2
 obtain rfl := qbI (hv2.sh.own 0 rfl)
 obtain ⟨rfl, h⟩ := hv2.lastB hr3
 refine zp3 rfl (qW qc h rfl rfl rfl ?_)
 intro w4 bb2 h
 refine zs 0 h rfl ?_
 intro w5 h
 refine zp1 rfl (zNSR (zp1 rfl (zl 3 0 h rfl (zp1 rfl (zl 3 1 h rfl (zp1 rfl ?_))))))
 obtain ⟨r4, hr5, hF⟩ := qd hF
 refine qT r4 h call96 (qjL (qcI (⟨a_0.Library.Cells⟩ : qv) (h.oldS s1)) (qaS (⟨a_0.Design.Instances, a_0.Design.Nets, a_0.Design.Ports⟩ : qj) (h.oldS s2) (h.oldS s3) (h.oldS s4)) hr5) rfl rfl rfl rfl ?_
 intro w6 h
 refine zp1 rfl (zNSSR (zp1 rfl (zl 3 1 h rfl (zp1 rfl ?_))))
 obtain ⟨r5, hr6, hF⟩ := qd hF
 refine qT r5 h call97 (qko (qaS (⟨a_0.Design.Instances, a_0.Design.Nets, a_0.Design.Ports⟩ : qj) (h.oldS s2) (h.oldS s3) (h.oldS s4)) hr6) rfl rfl rfl rfl ?_
 intro w7 h
 refine zp2 rfl (qb ?_)
 refine qu rfl hF ?_ ?_ <;> intro hF
 ·refine zSR (zp1 rfl (zl 3 1 h rfl (zp1 rfl ?_)))
  obtain ⟨r6, hr7, hF⟩ := qd hF
  refine qas r6 h call69 (qio (qaS (⟨a_0.Design.Instances, a_0.Design.Nets, a_0.Design.Ports⟩ : qj) (h.oldS s2) (h.oldS s3) (h.oldS s4)) hr7) rfl rfl rfl rfl ?_
  intro w8 S6 p7 k6 h
  refine zp1 rfl (zNSSR (zp1 rfl (qb ?_)))
  obtain ⟨o1, hF, hK1⟩ := qd hF
  refine qw ?_
  replace h := h.pick [0, 3, 4] rfl
  refine qP [(2, _), (5, _), (9, _), (10, _)] ⟨rfl, rfl, rfl, rfl, trivial⟩ ?_
  refine qF (fun m e w' => ∃ (S7 : Nat → Prop) (p8 : Option Addr) (ln1 : Nat) (k7 : Nat) (x1 : (List Int)) (i1 : Int), qbs a_0 r6 m x1 i1 = some o1 ∧ e = [(2, .pointer (some ⟨bb1, 0, none⟩)), (5, .slice p8 ln1 k7), (9, .slice p7 r6.length k6), (10, .int .i64 i1)] ∧ SH w w' [Ch.own S6 (r6 : List Int) [.slice p7 r6.length k6], Ch.own S7 (x1 : List Int) [.slice p8 ln1 k7], Ch.box bb1 [.slice p1 a_0.Library.Cells.length k1, .slice p2 a_0.Design.Instances.length k2, .slice p3 a_0.Design.Nets.length k3, .slice p4 a_0.Design.Ports.length k4, .slice p5 a_0.Wires.length k5] 48]) n ⟨_, _, _, _, _, _, hF, rfl, h⟩ ?_
  rintro m1 e1 w9 ⟨S7, p8, ln1, k7, x1, i1, hF, rfl, h⟩
  obtain rfl := (h.sl 1 rfl).2
  rcases m1 with _ | m1
  ·rw [qbs] at hF
   cases hF
  rw [qbs] at hF
  refine zSSR (zp4 rfl (qb ?_))
  refine qu rfl hF ?_ ?_ <;> intro hF
  ·refine zKSB (qbd ?_)
   refine qcA rfl (by kernel_rfl) ?_
   refine zdl 2 0 h rfl ?_
   refine zd2 rfl ?_
   obtain ⟨y1, hy1, hF⟩ := qd hF
   have he1 := qf hy1
   obtain ⟨b1, o_1, q1, cs3, hp1, hq1, -, hr8, hc3⟩ := (h.sl 0 rfl).1.at hy1
   obtain rfl := hr8
   refine zdx hp1 hq1 ⟨he1.1, qY he1.2.1 (h.sl 0 rfl).2⟩ rfl ?_
   refine zdc 0 hc3 rfl ?_
   obtain ⟨r7, hr9, hF⟩ := qd hF
   refine qcD r7 (vsB _) call95 (fun _ hb => qgU ((h.ext hb).old ha1) hr9) rfl rfl rfl rfl ?_
   refine zd1 rfl ?_
   refine qbb (fun w10 hb => ?_)
   replace h := h.ext hb
   clear hb
   refine qu rfl hF ?_ ?_ <;> intro hF
   ·refine qA (zp3 rfl ?_)
    obtain ⟨y2, hy2, hF⟩ := qd hF
    have he2 := qf hy2
    obtain ⟨b2, o_2, q2, cs4, hp2, hq2, -, hr10, hc5⟩ := (h.sl 0 rfl).1.at hy2
    obtain rfl := hr10
    refine zx hp2 hq2 ⟨he2.1, qY he2.2.1 (h.sl 0 rfl).2⟩ rfl (zc 0 hc5 rfl (qat qc [.tmp 56] _ ([y2] : List Int) h rfl rfl rfl rfl rfl rfl rfl rfl rfl ⟨rfl, trivial⟩ rfl ?_))
    intro w11 p9 S8 h
    obtain ⟨x2, hx1, hF⟩ := qd hF
    obtain ⟨g1, hx1⟩ := qa4 hx1
    refine qdG qc 2 h rfl (h.sl 0 rfl).1 (h.sl 0 rfl).2 rfl rfl rfl rfl rfl rfl rfl rfl rfl g1 hx1 rfl ?_
    intro w12 p10 k8 S9 h
    refine zp1 rfl (zNER (zp3 rfl (qb ?_)))
    replace h := h.pick [1, 2, 3] rfl
    exact qx m1 [(2, _), (5, _), (9, _), (10, _)] (Nat.lt_succ_self m1) ⟨rfl, rfl, rfl, rfl, trivial⟩ ⟨_, _, _, _, _, _, hF, rfl, h⟩
   exact zKER (zp3 rfl (qb (qx m1 [(2, _), (5, _), (9, _), (10, _)] (Nat.lt_succ_self m1) ⟨rfl, rfl, rfl, rfl, trivial⟩ ⟨_, _, _, _, _, _, hF, rfl, h⟩)))
  refine qE rfl ?_
  obtain rfl := qh hF; replace hF := hK1
  refine zSR (zp2 rfl (qb ?_))
  obtain rfl := qh hF
  exact qae qc (ρ := (List Int)) [GoT.v (List Int) [.slice p8 x1.length k7]] h ⟨rfl, trivial⟩ (PV.done h (qaf (qaC 1 h rfl)))
 refine zKSSR (zp1 rfl (zl 0 0 h rfl (zp1 rfl (qb ?_))))
 refine qu rfl hF ?_ ?_ <;> intro hF
 ·refine zSR (zp2 rfl (qb ?_))
  obtain rfl := qh hF
  exact qae qc (ρ := (List Int)) [GoT.v (List Int) [.slice p6 0 0]] h ⟨rfl, trivial⟩ (PV.done h (qaf (qaC 2 h rfl)))
 refine zKSR (zl 3 0 h rfl (zp1 rfl (zl 0 0 h rfl ?_)))
 have hg1 : Rg (old w) w (old w) w := .start (fun _ h => h)
 obtain ⟨r8, hr11, hF⟩ := qd hF
 refine qli r8 hg1 h call98 (qiO (hg1.atB h) (hg1.inBR h ha1) hr11) rfl rfl rfl rfl ?_
 intro w13 us3 S10 h hv4
 obtain ⟨cs5, rfl, hr12⟩ := qlP hv4
 have hr13 := hr12
 obtain ⟨p11, k9, p12, k10, p13, k11, rfl, s6, s7, s8⟩ := qU hr12
 replace h := h.grpAdd 0 rfl hr13
 refine qW qc h rfl rfl rfl ?_
 intro w14 bb3 h
 refine zs 0 h rfl ?_
 intro w15 h
 replace h : SH _ _ [Ch.box bb3 [.string r8.Name, .int .i64 r8.Kind, .slice p11 r8.Pins.length k9, .slice p12 r8.Arcs.length k10, .slice p13 r8.Truth.length k11, .int .i64 r8.Leak, .int .i64 r8.Energy] 155, Ch.grp (old w) S10 [fct (r8 : qD) [.string r8.Name, .int .i64 r8.Kind, .slice p11 r8.Pins.length k9, .slice p12 r8.Arcs.length k10, .slice p13 r8.Truth.length k11, .int .i64 r8.Leak, .int .i64 r8.Energy]], Ch.box bb2 [.int .i64 r2.instance_, .int .i64 r2.pin, .int .i64 r2.net, .bool r2.drives] 144, Ch.own S3 (r2 : Tl05Place) [.int .i64 r2.instance_, .int .i64 r2.pin, .int .i64 r2.net, .bool r2.drives], Ch.own S1 (([] : List Int) : List Int) [.slice p6 0 0], Ch.box bb1 [.slice p1 a_0.Library.Cells.length k1, .slice p2 a_0.Design.Instances.length k2, .slice p3 a_0.Design.Nets.length k3, .slice p4 a_0.Design.Ports.length k4, .slice p5 a_0.Wires.length k5] 48] := h
 refine zNSSR (zp1 rfl (qb ?_))
 obtain ⟨o2, hF, hK2⟩ := qd hF
 refine qw ?_
 replace h := h.pick [0, 1, 2, 4, 5] rfl
 refine qP [(2, _), (5, _), (6, _), (11, _), (12, _)] ⟨rfl, rfl, rfl, rfl, rfl, trivial⟩ ?_
 refine qF (fun m e w' => ∃ (i2 : Int), qcs a_0 r2 r8 m i2 = some o2 ∧ e = [(2, .pointer (some ⟨bb1, 0, none⟩)), (5, .slice p6 0 0), (6, .pointer (some ⟨bb2, 0, none⟩)), (11, .pointer (some ⟨bb3, 0, none⟩)), (12, .int .i64 i2)] ∧ SH w w' [Ch.box bb3 [.string r8.Name, .int .i64 r8.Kind, .slice p11 r8.Pins.length k9, .slice p12 r8.Arcs.length k10, .slice p13 r8.Truth.length k11, .int .i64 r8.Leak, .int .i64 r8.Energy] 155, Ch.grp (old w) S10 [fct (r8 : qD) [.string r8.Name, .int .i64 r8.Kind, .slice p11 r8.Pins.length k9, .slice p12 r8.Arcs.length k10, .slice p13 r8.Truth.length k11, .int .i64 r8.Leak, .int .i64 r8.Energy]], Ch.box bb2 [.int .i64 r2.instance_, .int .i64 r2.pin, .int .i64 r2.net, .bool r2.drives] 144, Ch.own S1 (([] : List Int) : List Int) [.slice p6 0 0], Ch.box bb1 [.slice p1 a_0.Library.Cells.length k1, .slice p2 a_0.Design.Instances.length k2, .slice p3 a_0.Design.Nets.length k3, .slice p4 a_0.Design.Ports.length k4, .slice p5 a_0.Wires.length k5] 48]) n ⟨_, hF, rfl, h⟩ ?_
 rintro m2 e2 w16 ⟨i2, hF, rfl, h⟩
 rcases m2 with _ | m2
 ·rw [qcs] at hF
  cases hF
 rw [qcs] at hF
 refine zSSR (zp2 rfl (zl 0 3 h rfl (zp2 rfl (qb ?_))))
 refine qu rfl hF ?_ ?_ <;> intro hF
 ·refine zKSB (qbd ?_)
  obtain ⟨KF1, hKF1, o3, hF, hK3⟩ := bindE hF
  refine qek (fun e w' => ∃ (b3 : Bool), KF1 b3 = some o2 ∧ e = [(2, .pointer (some ⟨bb1, 0, none⟩)), (5, .slice p6 0 0), (6, .pointer (some ⟨bb2, 0, none⟩)), (11, .pointer (some ⟨bb3, 0, none⟩)), (12, .int .i64 i2), (92, .bool b3)] ∧ SH w w' [Ch.box bb3 [.string r8.Name, .int .i64 r8.Kind, .slice p11 r8.Pins.length k9, .slice p12 r8.Arcs.length k10, .slice p13 r8.Truth.length k11, .int .i64 r8.Leak, .int .i64 r8.Energy] 155, Ch.grp (old w) S10 [fct (r8 : qD) [.string r8.Name, .int .i64 r8.Kind, .slice p11 r8.Pins.length k9, .slice p12 r8.Arcs.length k10, .slice p13 r8.Truth.length k11, .int .i64 r8.Leak, .int .i64 r8.Energy]], Ch.box bb2 [.int .i64 r2.instance_, .int .i64 r2.pin, .int .i64 r2.net, .bool r2.drives] 144, Ch.own S1 (([] : List Int) : List Int) [.slice p6 0 0], Ch.box bb1 [.slice p1 a_0.Library.Cells.length k1, .slice p2 a_0.Design.Instances.length k2, .slice p3 a_0.Design.Nets.length k3, .slice p4 a_0.Design.Ports.length k4, .slice p5 a_0.Wires.length k5] 48]) ?_ ?_
  ·refine qcA rfl (by kernel_rfl) ?_
   refine zd1 rfl ?_
   refine zdl 0 3 h rfl ?_
   refine zd1 rfl ?_
   obtain ⟨y3, hy3, hF⟩ := qd hF
   have he3 := qf hy3
   obtain ⟨b4, o_3, q3, cs6, hp3, hq3, -, hr15, hc9⟩ := (qg7 (h.grpS 1 0 rfl rfl)).2.1.1.at hy3
   have hr16 := hr15
   obtain ⟨p15, k12, p16, k13, rfl, s9, s10⟩ := qav hr15
   replace h := h.grpAdd 1 rfl hr16
   refine zdx hp3 hq3 ⟨he3.1, qY he3.2.1 (qg7 (h.grpS 1 1 rfl rfl)).2.1.2⟩ rfl ?_
   refine zd1 rfl ?_
   refine zdc 1 hc9 rfl ?_
   refine zd1 rfl ?_
   refine zdl 2 1 h rfl ?_
   refine zd2 rfl ?_
   by_cases hc10 : (y3.From == r2.pin) = true
   ·replace hF := bifT hc10 hF
    refine qcC hc10 (t := 84) rfl (qg rfl (zd1 rfl (qg rfl ?_)))
    refine zdl 0 3 h rfl ?_
    refine qg rfl (zd1 rfl (qg rfl ?_))
    obtain ⟨y4, hy4, hF⟩ := qd hF
    have he4 := qf hy4
    obtain ⟨b5, o_4, q4, cs7, hp4, hq4, -, hr17, hc11⟩ := (qg7 (h.grpS 1 1 rfl rfl)).2.1.1.at hy4
    have hr18 := hr17
    obtain ⟨p17, k14, p18, k15, rfl, s11, s12⟩ := qav hr17
    replace h := h.grpAdd 1 rfl hr18
    refine zdx hp4 hq4 ⟨he4.1, qY he4.2.1 (qg7 (h.grpS 1 2 rfl rfl)).2.1.2⟩ rfl ?_
    refine qg rfl (zd1 rfl (qg rfl ?_))
    refine zdc 0 hc11 rfl ?_
    refine qg rfl (zd2 rfl ?_)
    refine qbb (fun w19 hb => ?_)
    replace h := h.ext hb
    clear hb
    replace h := h.grpKeep [2] 1 rfl
    obtain rfl := qh hF
    exact qy [(2, _), (5, _), (6, _), (11, _), (12, _), (92, _)] ⟨rfl, rfl, rfl, rfl, rfl, rfl, trivial⟩ ⟨_, hK3, rfl, h⟩
   replace hc10 := zb hc10
   replace hF := bifF hc10 hF
   refine qcy hc10 (t := 84) rfl (qk rfl rfl rfl (qk rfl rfl rfl (qk rfl rfl rfl (qk rfl rfl rfl (qk rfl rfl rfl (qk rfl rfl rfl (qk rfl rfl rfl (zd1 rfl ?_))))))))
   refine qbb (fun w20 hb => ?_)
   replace h := h.ext hb
   clear hb
   replace h := h.grpKeep [1] 1 rfl
   obtain rfl := qh hF
   exact qy [(2, _), (5, _), (6, _), (11, _), (12, _), (92, _)] ⟨rfl, rfl, rfl, rfl, rfl, rfl, trivial⟩ ⟨_, hK3, rfl, h⟩
  rintro e3 w21 ⟨b3, hF, rfl, h⟩
  subst hKF1
  refine qu rfl hF ?_ ?_ <;> intro hF
  ·refine zSR (zp1 rfl (zl 4 1 h rfl (zp1 rfl (zl 2 0 h rfl (zp1 rfl (zl 0 2 h rfl (zp2 rfl ?_)))))))
   obtain ⟨r9, hr14, hF⟩ := qd hF
   refine qT r9 h call99 (qk0 (qaS (⟨a_0.Design.Instances, a_0.Design.Nets, a_0.Design.Ports⟩ : qj) (h.oldS (s2.mono hg1.old)) (h.oldS (s3.mono hg1.old)) (h.oldS (s4.mono hg1.old))) hr14) rfl rfl rfl rfl ?_
   intro w17 h
   refine qat qc [.tmp 101] _ ([r9] : List Int) h rfl rfl rfl rfl rfl rfl rfl rfl rfl ⟨rfl, trivial⟩ rfl ?_
   intro w18 p14 S11 h
   refine zp1 rfl (qb ?_)
   replace h := h.pick [0, 1, 3, 4, 5] rfl
   obtain rfl := qh hF; replace hF := hK2
   obtain rfl := qh hF
   exact qae qc (ρ := (List Int)) [GoT.v (List Int) [.slice p14 1 1]] h ⟨rfl, trivial⟩ (PV.done h (qaf (qaC 0 h rfl)))
  exact zKER (zp3 rfl (qb (qx m2 [(2, _), (5, _), (6, _), (11, _), (12, _)] (Nat.lt_succ_self m2) ⟨rfl, rfl, rfl, rfl, rfl, trivial⟩ ⟨_, hF, rfl, h⟩)))
 refine qE rfl ?_
 obtain rfl := qh hF; replace hF := hK2
 refine zSR (zp2 rfl (qb ?_))
 replace h := h.pick [0, 2, 3, 4] rfl
 obtain rfl := qh hF
 exact qae qc (ρ := (List Int)) [GoT.v (List Int) [.slice p6 0 0]] h ⟨rfl, trivial⟩ (PV.done h (qaf (qaC 2 h rfl)))

def qdj (_ : Nat) (a : qZ) : Option (List qQ) :=
 bif (a.Kind == 2) then
  some ([(⟨0, 0⟩ : qQ), (⟨0, 1⟩ : qQ)] : List qQ)
 else
  bif (a.Kind == 3) then
   some ([(⟨1, 0⟩ : qQ), (⟨1, 1⟩ : qQ)] : List qQ)
  else
   bif (a.Kind != 1) then
    some []
   else
    bif (a.Sense == 1) then
     some ([(⟨0, 0⟩ : qQ), (⟨1, 1⟩ : qQ)] : List qQ)
    else
     bif (a.Sense == 2) then
      some ([(⟨0, 1⟩ : qQ), (⟨1, 0⟩ : qQ)] : List qQ)
     else
      some ([(⟨0, 0⟩ : qQ), (⟨0, 1⟩ : qQ), (⟨1, 0⟩ : qQ), (⟨1, 1⟩ : qQ)] : List qQ)

theorem qiu {n : Nat} {w : World} {a : qZ} {cs1 : List Value} (ha1 : GoT.R w (old w) a cs1) {r : (List qQ)} (hF : qdj n a = some r) : RetV Tryz.prog 131 [GoT.v qZ cs1] w r := by
 obtain ⟨p1, k1, p2, k2, rfl, s1, s2⟩ := qav ha1
 refine qe Tryz.func131 rfl (m := 44) rfl rfl (fun h => ?_)
 rw [qdj] at hF
 refine zSR (qN h rfl rfl ?_)
 intro w1 bb1 h
 refine zp1 rfl (zNSR (r_v (qe2 qc [0, 1] [.const (.int .i64 (0)), .const (.int .i64 (0))] rfl rfl rfl rfl rfl rfl rfl rfl rfl) rfl (r_v (qe2 qc [0, 1] [.const (.int .i64 (1)), .const (.int .i64 (1))] rfl rfl rfl rfl rfl rfl rfl rfl rfl) rfl (qat qc [.tmp 5, .tmp 6] _ ([(⟨0, 0⟩ : qQ), (⟨1, 1⟩ : qQ)] : List qQ) h rfl rfl rfl rfl rfl rfl rfl rfl rfl ⟨(qcY (⟨0, 0⟩ : qQ)), (qcY (⟨1, 1⟩ : qQ)), trivial⟩ rfl ?_))))
 intro w2 p3 S1 h
 refine zp1 rfl (zNSR (r_v (qe2 qc [0, 1] [.const (.int .i64 (0)), .const (.int .i64 (1))] rfl rfl rfl rfl rfl rfl rfl rfl rfl) rfl (r_v (qe2 qc [0, 1] [.const (.int .i64 (1)), .const (.int .i64 (0))] rfl rfl rfl rfl rfl rfl rfl rfl rfl) rfl (qat qc [.tmp 8, .tmp 9] _ ([(⟨0, 1⟩ : qQ), (⟨1, 0⟩ : qQ)] : List qQ) h rfl rfl rfl rfl rfl rfl rfl rfl rfl ⟨(qcY (⟨0, 1⟩ : qQ)), (qcY (⟨1, 0⟩ : qQ)), trivial⟩ rfl ?_))))
 intro w3 p4 S2 h
 refine zp1 rfl (zNSB (zSR (zp1 rfl (zl 2 0 h rfl (zp2 rfl (qb ?_))))))
 refine qu rfl hF ?_ ?_ <;> intro hF
 ·refine zSR (r_v (qe2 qc [0, 1] [.const (.int .i64 (0)), .const (.int .i64 (0))] rfl rfl rfl rfl rfl rfl rfl rfl rfl) rfl (r_v (qe2 qc [0, 1] [.const (.int .i64 (0)), .const (.int .i64 (1))] rfl rfl rfl rfl rfl rfl rfl rfl rfl) rfl (qat qc [.tmp 15, .tmp 16] _ ([(⟨0, 0⟩ : qQ), (⟨0, 1⟩ : qQ)] : List qQ) h rfl rfl rfl rfl rfl rfl rfl rfl rfl ⟨(qcY (⟨0, 0⟩ : qQ)), (qcY (⟨0, 1⟩ : qQ)), trivial⟩ rfl ?_)))
  intro w4 p5 S3 h
  refine zp1 rfl (qb ?_)
  obtain rfl := qh hF
  exact qae qc (ρ := (List qQ)) [GoT.v (List qQ) [.slice p5 2 2]] h ⟨rfl, trivial⟩ (PV.done h (qaf (qaC 0 h rfl)))
 refine zSR (zp1 rfl (zl 2 0 h rfl (zp2 rfl (qb ?_))))
 refine qu rfl hF ?_ ?_ <;> intro hF
 ·refine zSR (r_v (qe2 qc [0, 1] [.const (.int .i64 (1)), .const (.int .i64 (0))] rfl rfl rfl rfl rfl rfl rfl rfl rfl) rfl (r_v (qe2 qc [0, 1] [.const (.int .i64 (1)), .const (.int .i64 (1))] rfl rfl rfl rfl rfl rfl rfl rfl rfl) rfl (qat qc [.tmp 22, .tmp 23] _ ([(⟨1, 0⟩ : qQ), (⟨1, 1⟩ : qQ)] : List qQ) h rfl rfl rfl rfl rfl rfl rfl rfl rfl ⟨(qcY (⟨1, 0⟩ : qQ)), (qcY (⟨1, 1⟩ : qQ)), trivial⟩ rfl ?_)))
  intro w5 p6 S4 h
  refine zp1 rfl (qb ?_)
  obtain rfl := qh hF
  exact qae qc (ρ := (List qQ)) [GoT.v (List qQ) [.slice p6 2 2]] h ⟨rfl, trivial⟩ (PV.done h (qaf (qaC 0 h rfl)))
 refine zSR (zp1 rfl (zl 2 0 h rfl (zp2 rfl (qb ?_))))
 refine qu rfl hF ?_ ?_ <;> intro hF
 ·refine zSR (zp1 rfl (qb ?_))
  obtain rfl := qh hF
  exact qae qc (ρ := (List qQ)) [GoT.v (List qQ) [.slice none 0 0]] h ⟨rfl, trivial⟩ (PV.done h (qaf qlF))
 refine zSR (zp1 rfl (zl 2 3 h rfl (zp2 rfl (qb ?_))))
 refine qu rfl hF ?_ ?_ <;> intro hF
 ·refine zSR (zp2 rfl (qb ?_))
  obtain rfl := qh hF
  exact qae qc (ρ := (List qQ)) [GoT.v (List qQ) [.slice p3 2 2]] h ⟨rfl, trivial⟩ (PV.done h (qaf (qaC 1 h rfl)))
 refine zSR (zp1 rfl (zl 2 3 h rfl (zp2 rfl (qb ?_))))
 refine qu rfl hF ?_ ?_ <;> intro hF
 ·refine zSR (zp2 rfl (qb ?_))
  obtain rfl := qh hF
  exact qae qc (ρ := (List qQ)) [GoT.v (List qQ) [.slice p4 2 2]] h ⟨rfl, trivial⟩ (PV.done h (qaf (qaC 0 h rfl)))
 refine zKE (zSR (r_v (qe2 qc [0, 1] [.const (.int .i64 (0)), .const (.int .i64 (0))] rfl rfl rfl rfl rfl rfl rfl rfl rfl) rfl (r_v (qe2 qc [0, 1] [.const (.int .i64 (0)), .const (.int .i64 (1))] rfl rfl rfl rfl rfl rfl rfl rfl rfl) rfl (r_v (qe2 qc [0, 1] [.const (.int .i64 (1)), .const (.int .i64 (0))] rfl rfl rfl rfl rfl rfl rfl rfl rfl) rfl (r_v (qe2 qc [0, 1] [.const (.int .i64 (1)), .const (.int .i64 (1))] rfl rfl rfl rfl rfl rfl rfl rfl rfl) rfl (qat qc [.tmp 39, .tmp 40, .tmp 41, .tmp 42] _ ([(⟨0, 0⟩ : qQ), (⟨0, 1⟩ : qQ), (⟨1, 0⟩ : qQ), (⟨1, 1⟩ : qQ)] : List qQ) h rfl rfl rfl rfl rfl rfl rfl rfl rfl ⟨(qcY (⟨0, 0⟩ : qQ)), (qcY (⟨0, 1⟩ : qQ)), (qcY (⟨1, 0⟩ : qQ)), (qcY (⟨1, 1⟩ : qQ)), trivial⟩ rfl ?_))))))
 intro w6 p7 S5 h
 refine zp1 rfl (qb ?_)
 obtain rfl := qh hF
 exact qae qc (ρ := (List qQ)) [GoT.v (List qQ) [.slice p7 4 4]] h ⟨rfl, trivial⟩ (PV.done h (qaf (qaC 0 h rfl)))

def qa3 (first : Int) (i1 : Int) (y2 : qZ) (r1 : (List qQ)) : Nat → (List qa9) → Int → Option ((List qa9) × Int)
 | 0, _, _ => none
 | n + 1, x2, i2 =>
  bif decide (i2 < (r1.length : Int)) then
   (idx r1 i2).bind fun y3 =>
   (appS x2 ([(⟨W64 ((W64 (2 * (W64 (first + y2.From)))) + y3.e0), W64 ((W64 (2 * (W64 (first + y2.To)))) + y3.e1), 1, i1⟩ : qa9)] : List qa9)).bind fun x3 =>
   qa3 first i1 y2 r1 n x3 (W64 (i2 + 1))
  else
   some (x2, i2)

def qa1 (first : Int) (y1 : qD) : Nat → (List qa9) → Int → Option ((List qa9) × Int)
 | 0, _, _ => none
 | n + 1, x1, i1 =>
  bif decide (i1 < (y1.Arcs.length : Int)) then
   (idx y1.Arcs i1).bind fun y2 =>
   (qdj n y2).bind fun r1 =>
   (qa3 first i1 y2 r1 n x1 0).bind fun o => match o with
   | (x2, _) =>
    qa1 first y1 n x2 (W64 (i1 + 1))
  else
   some (x1, i1)

def qde (n : Nat) (b : ql) (x : qn) (first : Int) : Option (List qa9) :=
 (idx b.Library.Cells x.Cell).bind fun y1 =>
 (qa1 first y1 n ([] : List qa9) 0).bind fun o => match o with
 | (x1, _) =>
  some x1

theorem qim {n : Nat} {w : World} {b : ql} {x : qn} {first : Int} {cs1 : List Value} (ha1 : GoT.R w (old w) b cs1) {cs2 : List Value} (ha2 : GoT.R w (old w) x cs2) {r : (List qa9)} (hF : qde n b x first = some r) : RetV Tryz.prog 78 [GoT.v ql cs1, GoT.v qn cs2, .int .i64 first] w r := by
 obtain ⟨p1, k1, p2, k2, p3, k3, p4, k4, p5, k5, rfl, s1, s2, s3, s4, s5⟩ := qag ha1
 obtain ⟨p6, k6, rfl, s6⟩ := qV ha2
 refine qe Tryz.func78 rfl (m := 57) rfl rfl (fun h => ?_)
 rw [qde] at hF
 refine zSR (qN h rfl rfl ?_)
 intro w1 bb1 h
 refine qN h rfl rfl ?_
 intro w2 bb2 h
 refine zp1 rfl (zNSR (zp1 rfl (zNSSR (zp2 rfl (zl 1 0 h rfl ?_)))))
 refine zp1 rfl (zl 0 1 h rfl ?_)
 obtain ⟨y1, hy1, hF⟩ := qd hF
 have he1 := qf hy1
 obtain ⟨b1, o_1, q1, cs3, hp1, hq1, -, hr1, hc1⟩ := s1.at hy1
 obtain ⟨p7, k7, p8, k8, p9, k9, rfl, s7, s8, s9⟩ := qU hr1
 refine zxe hp1 hq1 he1 rfl (zp1 rfl (zc 3 (hc1.below h.below) rfl (zp2 rfl (qb ?_))))
 replace h := h.nil (α := qa9)
 obtain ⟨o1, hF, hK1⟩ := qd hF
 refine qw ?_
 replace h := h.pick [0] rfl
 refine qP [(2, _), (7, _), (19, _), (20, _), (21, _)] ⟨rfl, rfl, rfl, rfl, rfl, trivial⟩ ?_
 refine qF (fun m e w' => ∃ (S1 : Nat → Prop) (p10 : Option Addr) (ln1 : Nat) (k10 : Nat) (x1 : (List qa9)) (i1 : Int), qa1 first y1 m x1 i1 = some o1 ∧ e = [(2, .int .i64 first), (7, .slice p10 ln1 k10), (19, .slice p8 y1.Arcs.length k8), (20, .int .i64 (y1.Arcs.length : Int)), (21, .int .i64 i1)] ∧ SH w w' [Ch.own S1 (x1 : List qa9) [.slice p10 ln1 k10]]) n ⟨_, _, _, _, _, _, hF, rfl, h⟩ ?_
 rintro m1 e1 w3 ⟨S1, p10, ln1, k10, x1, i1, hF, rfl, h⟩
 obtain rfl := (h.sl 0 rfl).2
 rcases m1 with _ | m1
 ·rw [qa1] at hF
  cases hF
 rw [qa1] at hF
 refine zSR (zp1 rfl (zNS ?_))
 refine qu rfl hF ?_ ?_ <;> intro hF
 ·refine zKSBSR (zp1 rfl ?_)
  obtain ⟨y2, hy2, hF⟩ := qd hF
  have he2 := qf hy2
  obtain ⟨b2, o_2, q2, cs4, hp2, hq2, -, hr2, hc3⟩ := s8.at hy2
  obtain ⟨p11, k11, p12, k12, rfl, s10, s11⟩ := qav hr2
  refine zxe hp2 hq2 he2 rfl (zc 0 (hc3.below h.below) rfl (qW qc h rfl rfl rfl ?_))
  intro w4 bb3 h
  refine zp1 rfl (zs 0 h rfl ?_)
  intro w5 h
  replace h : SH _ _ [Ch.box bb3 [.int .i64 y2.Kind, .int .i64 y2.From, .int .i64 y2.To, .int .i64 y2.Sense, .slice p11 y2.Delay.length k11, .slice p12 y2.Slew.length k12] 159, Ch.own S1 (x1 : List qa9) [.slice p10 x1.length k10]] := h
  refine zNSR (zl 0 0 h rfl ?_)
  obtain ⟨r1, hr3, hF⟩ := qd hF
  refine qas r1 h call131 (qiu (qfl y2 (h.oldS s10) (h.oldS s11)) hr3) rfl rfl rfl rfl ?_
  intro w6 S2 p13 k13 h
  refine zp2 rfl (qb ?_)
  obtain ⟨o2, hF, hK2⟩ := qd hF
  refine qw (qP [(2, _), (7, _), (8, _), (9, _), (19, _), (20, _), (21, _), (27, _), (28, _), (29, _)] ⟨rfl, rfl, rfl, rfl, rfl, rfl, rfl, rfl, rfl, rfl, trivial⟩ ?_)
  refine qF (fun m e w' => ∃ (S3 : Nat → Prop) (p14 : Option Addr) (ln2 : Nat) (k14 : Nat) (x2 : (List qa9)) (i2 : Int), qa3 first i1 y2 r1 m x2 i2 = some o2 ∧ e = [(2, .int .i64 first), (7, .slice p14 ln2 k14), (8, .int .i64 i1), (9, .pointer (some ⟨bb3, 0, none⟩)), (19, .slice p8 y1.Arcs.length k8), (20, .int .i64 (y1.Arcs.length : Int)), (21, .int .i64 i1), (27, .slice p13 r1.length k13), (28, .int .i64 (r1.length : Int)), (29, .int .i64 i2)] ∧ SH w w' [Ch.own S2 (r1 : List qQ) [.slice p13 r1.length k13], Ch.box bb3 [.int .i64 y2.Kind, .int .i64 y2.From, .int .i64 y2.To, .int .i64 y2.Sense, .slice p11 y2.Delay.length k11, .slice p12 y2.Slew.length k12] 159, Ch.own S3 (x2 : List qa9) [.slice p14 ln2 k14]]) m1 ⟨_, _, _, _, _, _, hF, rfl, h⟩ ?_
  rintro m2 e2 w7 ⟨S3, p14, ln2, k14, x2, i2, hF, rfl, h⟩
  obtain rfl := (h.sl 2 rfl).2
  rcases m2 with _ | m2
  ·rw [qa3] at hF
   cases hF
  rw [qa3] at hF
  refine zSR (zp1 rfl (zNS ?_))
  refine qu rfl hF ?_ ?_ <;> intro hF
  ·refine zKSBSR ?_
   obtain ⟨y3, hy3, hF⟩ := qd hF
   have he3 := qf hy3
   obtain ⟨b3, o_3, q3, cs5, hp3, hq3, -, hr4, hc5⟩ := (h.sl 0 rfl).1.at hy3
   obtain rfl := qmX hr4
   refine zx hp3 hq3 ⟨he3.1, qY he3.2.1 (h.sl 0 rfl).2⟩ rfl (zc 0 hc5 rfl (qW qc h rfl rfl rfl ?_))
   intro w8 bb4 h
   refine zs 0 h rfl ?_
   intro w9 h
   refine qb (qA (zp3 rfl (zl 2 1 h rfl (zp2 rfl ?_))))
   refine r_v (qqY (iv := 0) qc rfl rfl (by decide) ⟨rfl, rfl⟩ rfl rfl) rfl ?_
   refine zl 0 0 h rfl (zp3 rfl (zl 2 2 h rfl (zp2 rfl ?_)))
   refine r_v (qqY (iv := 1) qc rfl rfl (by decide) ⟨rfl, rfl⟩ rfl rfl) rfl ?_
   refine zl 0 1 h rfl (zp2 rfl (r_v (qgF qc [0, 1, 2, 3] [.tmp 41, .tmp 49, .const (.int .i64 (1)), .tmp 50] rfl rfl rfl rfl rfl rfl rfl rfl) rfl (qat qc [.tmp 51] _ ([(⟨W64 ((W64 (2 * (W64 (first + y2.From)))) + y3.e0), W64 ((W64 (2 * (W64 (first + y2.To)))) + y3.e1), 1, i1⟩ : qa9)] : List qa9) h rfl rfl rfl rfl rfl rfl rfl rfl rfl ⟨(qmt (⟨W64 ((W64 (2 * (W64 (first + y2.From)))) + y3.e0), W64 ((W64 (2 * (W64 (first + y2.To)))) + y3.e1), 1, i1⟩ : qa9)), trivial⟩ rfl ?_)))
   intro w10 p15 S4 h
   obtain ⟨x3, hx1, hF⟩ := qd hF
   obtain ⟨g1, hx1⟩ := qa4 hx1
   refine qdG qc 4 h rfl (h.sl 0 rfl).1 (h.sl 0 rfl).2 rfl rfl rfl rfl rfl rfl rfl rfl rfl g1 hx1 rfl ?_
   intro w11 p16 k15 S5 h
   refine zp1 rfl (zNER (zp2 rfl (qb ?_)))
   replace h := h.pick [2, 3, 4] rfl
   exact qx m2 [(2, _), (7, _), (8, _), (9, _), (19, _), (20, _), (21, _), (27, _), (28, _), (29, _)] (Nat.lt_succ_self m2) ⟨rfl, rfl, rfl, rfl, rfl, rfl, rfl, rfl, rfl, rfl, trivial⟩ ⟨_, _, _, _, _, _, hF, rfl, h⟩
  refine qE rfl ?_
  obtain rfl := qh hF; replace hF := hK2
  refine qd1 (qA (zp2 rfl (qb ?_)))
  replace h := h.pick [2] rfl
  exact qx m1 [(2, _), (7, _), (19, _), (20, _), (21, _)] (Nat.lt_succ_self m1) ⟨rfl, rfl, rfl, rfl, rfl, trivial⟩ ⟨_, _, _, _, _, _, hF, rfl, h⟩
 refine qE rfl ?_
 obtain rfl := qh hF; replace hF := hK1
 refine zSR (zp2 rfl (qb ?_))
 obtain rfl := qh hF
 exact qae qc (ρ := (List qa9)) [GoT.v (List qa9) [.slice p10 x1.length k10]] h ⟨rfl, trivial⟩ (PV.done h (qaf (qaC 0 h rfl)))

def qf6 (_ : Nat) (s : (List Int)) : Option (List Int) :=
 appS ([] : List Int) s

theorem qiQ {n : Nat} {w : World} {s : (List Int)} {cs1 : List Value} (ha1 : GoT.R w (old w) s cs1) {r : (List Int)} (hF : qf6 n s = some r) : RetV Tryz.prog 132 [GoT.v (List Int) cs1] w r := by
 obtain ⟨p, k, rfl, s1⟩ := ha1
 obtain ⟨g1, hx⟩ := qa4 (show appS ([] : List Int) s = some r from hF)
 cases p with
 | none =>
  obtain rfl := qpZ s1
  obtain rfl : [] = r := hx
  refine qe Tryz.func132 rfl (m := 8) rfl rfl (fun h => ?_)
  refine zSR (zp1 rfl (zNSSR (zp1 rfl (r_v (qne qc rfl rfl rfl rfl rfl) rfl (qb (qeU rfl rfl (qbd ?_)))))))
  exact qA (zp1 rfl (qb (qae qc (ρ := (List Int)) [GoT.v (List Int) [.slice none 0 0]] h ⟨rfl, trivial⟩ (PV.done h (qaf qlF)))))
 | some a =>
  refine qe Tryz.func132 rfl (m := 8) rfl rfl (fun h => ?_)
  refine zSR (zp1 rfl (zNSSR (zp1 rfl (r_v (qne qc rfl rfl rfl rfl rfl) rfl (qb (qdY rfl rfl (qeq ?_)))))))
  refine zSR (qat qc [] _ ([] : List Int) h rfl rfl rfl rfl rfl rfl rfl rfl rfl trivial rfl ?_)
  intro w1 p1 S1 h
  refine zp1 rfl (qq0 qc 0 h rfl (h.oldS s1) rfl rfl rfl rfl rfl rfl rfl rfl rfl rfl g1 rfl ?_)
  intro w2 p2 k2 S2 h
  rw [hx] at h
  exact zp1 rfl (qb (qae qc (ρ := (List Int)) [GoT.v (List Int) [.slice p2 (([] : List Int).length + s.length) k2]] h ⟨rfl, trivial⟩ (PV.done h (qaf (qaC 0 h rfl)))))

def qaD (net : Int) (r1 : (List Tplace)) : Nat → (List Int) → Int → Option ((List Int) × Int)
 | 0, _, _ => none
 | n + 1, x1, i1 =>
  bif decide (i1 < (r1.length : Int)) then
   (idx r1 i1).bind fun y1 =>
   bif (y1.net == net) then
    bif (!y1.drives) then
     (appS x1 ([i1] : List Int)).bind fun x2 =>
     qaD net r1 n x2 (W64 (i1 + 1))
    else
     qaD net r1 n x1 (W64 (i1 + 1))
   else
    qaD net r1 n x1 (W64 (i1 + 1))
  else
   some (x1, i1)

def qed (n : Nat) (d : qj) (net : Int) : Option (List Int) :=
 (qbF n d).bind fun r1 =>
 (qaD net r1 n ([] : List Int) 0).bind fun o => match o with
 | (x1, _) =>
  some x1

theorem qiU {n : Nat} {w : World} {d : qj} {net : Int} {cs1 : List Value} (ha1 : GoT.R w (old w) d cs1) {r : (List Int)} (hF : qed n d net = some r) : RetV Tryz.prog 133 [GoT.v qj cs1, .int .i64 net] w r := by
 obtain ⟨p1, k1, p2, k2, p3, k3, rfl, s1, s2, s3⟩ := qao ha1
 refine qe Tryz.func133 rfl (m := 31) rfl rfl (fun h => ?_)
 rw [qed] at hF
 refine zSR (qN h rfl rfl ?_)
 intro w1 bb1 h
 refine zp1 rfl (zNSR (zp1 rfl (zNSSR (zl 0 0 h rfl ?_))))
 obtain ⟨r1, hr1, hF⟩ := qd hF
 refine qas r1 h call76 (qdZ (h.old ha1) hr1) rfl rfl rfl rfl ?_
 intro w2 S1 p4 k4 h
 refine zp2 rfl (qb ?_)
 replace h := h.nil (α := Int)
 obtain ⟨o1, hF, hK1⟩ := qd hF
 refine qw ?_
 replace h := h.pick [0, 1] rfl
 refine qP [(1, _), (5, _), (9, _), (10, _), (11, _)] ⟨rfl, rfl, rfl, rfl, rfl, trivial⟩ ?_
 refine qF (fun m e w' => ∃ (S2 : Nat → Prop) (p5 : Option Addr) (ln1 : Nat) (k5 : Nat) (x1 : (List Int)) (i1 : Int), qaD net r1 m x1 i1 = some o1 ∧ e = [(1, .int .i64 net), (5, .slice p5 ln1 k5), (9, .slice p4 r1.length k4), (10, .int .i64 (r1.length : Int)), (11, .int .i64 i1)] ∧ SH w w' [Ch.own S2 (x1 : List Int) [.slice p5 ln1 k5], Ch.own S1 (r1 : List Tplace) [.slice p4 r1.length k4]]) n ⟨_, _, _, _, _, _, hF, rfl, h⟩ ?_
 rintro m1 e1 w3 ⟨S2, p5, ln1, k5, x1, i1, hF, rfl, h⟩
 obtain rfl := (h.sl 0 rfl).2
 rcases m1 with _ | m1
 ·rw [qaD] at hF
  cases hF
 rw [qaD] at hF
 refine zSR (zp1 rfl (zNS ?_))
 refine qu rfl hF ?_ ?_ <;> intro hF
 ·refine zKSBSR (zp1 rfl ?_)
  obtain ⟨y1, hy1, hF⟩ := qd hF
  have he1 := qf hy1
  obtain ⟨b1, o_1, q1, cs2, hp1, hq1, -, hr2, hc2⟩ := (h.sl 1 rfl).1.at hy1
  obtain rfl := qcj hr2
  refine zx hp1 hq1 ⟨he1.1, qY he1.2.1 (h.sl 1 rfl).2⟩ rfl (zc 0 hc2 rfl (qW qc h rfl rfl rfl ?_))
  intro w4 bb2 h
  refine zp1 rfl (zs 0 h rfl ?_)
  intro w5 h
  replace h : SH _ _ [Ch.box bb2 [.int .i64 y1.instance_, .int .i64 y1.pin, .int .i64 y1.net, .bool y1.drives] 97, Ch.own S2 (x1 : List Int) [.slice p5 x1.length k5], Ch.own S1 (r1 : List Tplace) [.slice p4 r1.length k4]] := h
  refine zNSR (zp1 rfl (zl 0 2 h rfl (zp3 rfl ?_)))
  by_cases hc3 : (y1.net == net) = true
  ·replace hF := bifT hc3 hF
   refine qB hc3 (t := 20) rfl (qa rfl (zp1 rfl (qa rfl (zl 0 3 h rfl (qa rfl (zp2 rfl (qb ?_)))))))
   refine qu rfl hF ?_ ?_ <;> intro hF
   ·refine qA (zp2 rfl (qat qc [.tmp 26] _ ([i1] : List Int) h rfl rfl rfl rfl rfl rfl rfl rfl rfl ⟨rfl, trivial⟩ rfl ?_))
    intro w6 p6 S3 h
    obtain ⟨x2, hx1, hF⟩ := qd hF
    obtain ⟨g1, hx1⟩ := qa4 hx1
    refine qdG qc 2 h rfl (h.sl 0 rfl).1 (h.sl 0 rfl).2 rfl rfl rfl rfl rfl rfl rfl rfl rfl g1 hx1 rfl ?_
    intro w7 p7 k6 S4 h
    refine zp1 rfl (zNER (zp2 rfl (qb ?_)))
    replace h := h.pick [2, 3] rfl
    exact qx m1 [(1, _), (5, _), (9, _), (10, _), (11, _)] (Nat.lt_succ_self m1) ⟨rfl, rfl, rfl, rfl, rfl, trivial⟩ ⟨_, _, _, _, _, _, hF, rfl, h⟩
   refine zKER (zp2 rfl (qb ?_))
   replace h := h.pick [1, 2] rfl
   exact qx m1 [(1, _), (5, _), (9, _), (10, _), (11, _)] (Nat.lt_succ_self m1) ⟨rfl, rfl, rfl, rfl, rfl, trivial⟩ ⟨_, _, _, _, _, _, hF, rfl, h⟩
  replace hc3 := zb hc3
  replace hF := bifF hc3 hF
  refine qC hc3 (t := 20) rfl (zn3 rfl (zp1 rfl (qb (qdY rfl rfl (zKER (zp2 rfl ?_))))))
  refine qb ?_
  replace h := h.pick [1, 2] rfl
  exact qx m1 [(1, _), (5, _), (9, _), (10, _), (11, _)] (Nat.lt_succ_self m1) ⟨rfl, rfl, rfl, rfl, rfl, trivial⟩ ⟨_, _, _, _, _, _, hF, rfl, h⟩
 refine qE rfl ?_
 obtain rfl := qh hF; replace hF := hK1
 refine zSR (zp2 rfl (qb ?_))
 obtain rfl := qh hF
 exact qae qc (ρ := (List Int)) [GoT.v (List Int) [.slice p5 x1.length k5]] h ⟨rfl, trivial⟩ (PV.done h (qaf (qaC 0 h rfl)))

def qei (_ : Nat) (d : qj) (l : qv) (p : Tplace) : Option Int :=
 bif decide (p.instance_ < 0) then
  some 0
 else
  (idx d.Instances p.instance_).bind fun y1 =>
  (idx l.Cells y1.Cell).bind fun y2 =>
  (idx y2.Pins p.pin).bind fun y3 =>
  some y3.Cap

theorem qi1 {n : Nat} {w : World} {d : qj} {l : qv} {p : Tplace} {cs1 : List Value} (ha1 : GoT.R w (old w) d cs1) {cs2 : List Value} (ha2 : GoT.R w (old w) l cs2) {cs3 : List Value} (ha3 : GoT.R w (old w) p cs3) {r : Int} (hF : qei n d l p = some r) : RetV Tryz.prog 134 [GoT.v qj cs1, GoT.v qv cs2, GoT.v Tplace cs3] w r := by
 obtain ⟨p1, k1, p2, k2, p3, k3, rfl, s1, s2, s3⟩ := qao ha1
 obtain ⟨p4, k4, rfl, s4⟩ := qbh ha2
 obtain rfl := qcj ha3
 refine qe Tryz.func134 rfl (m := 27) rfl rfl (fun h => ?_)
 rw [qei] at hF
 refine zSR (qN h rfl rfl ?_)
 intro w1 bb1 h
 refine qN h rfl rfl ?_
 intro w2 bb2 h
 refine qN h rfl rfl ?_
 intro w3 bb3 h
 refine zp1 rfl (zNSSR (zp1 rfl (zl 0 0 h rfl (zp1 rfl (qb ?_)))))
 refine qu rfl hF ?_ ?_ <;> intro hF
 ·exact zSR (zp1 rfl (qb (qaH qc h hF ⟨rfl, trivial⟩)))
 refine zKS ?_
 refine qcA rfl (by kernel_rfl) ?_
 refine zd1 rfl ?_
 refine zdl 1 0 h rfl ?_
 refine zd1 rfl ?_
 refine zdl 2 0 h rfl ?_
 refine zd1 rfl ?_
 refine zdl 0 0 h rfl ?_
 obtain ⟨y1, hy1, hF⟩ := qd hF
 have he1 := qf hy1
 obtain ⟨b1, o_1, q1, cs4, hp1, hq1, -, hr1, hc2⟩ := s1.at hy1
 obtain ⟨p5, k5, rfl, s5⟩ := qV hr1
 refine zdxe hp1 hq1 he1 rfl ?_
 refine zd1 rfl ?_
 refine zdc 1 (hc2.below h.below) rfl ?_
 obtain ⟨y2, hy2, hF⟩ := qd hF
 have he2 := qf hy2
 obtain ⟨b2, o_2, q2, cs5, hp2, hq2, -, hr2, hc3⟩ := s4.at hy2
 obtain ⟨p6, k6, p7, k7, p8, k8, rfl, s6, s7, s8⟩ := qU hr2
 refine zdxe hp2 hq2 he2 rfl ?_
 refine zd1 rfl ?_
 refine zdc 2 (hc3.below h.below) rfl ?_
 refine zd1 rfl ?_
 refine zdl 0 1 h rfl ?_
 obtain ⟨y3, hy3, hF⟩ := qd hF
 have he3 := qf hy3
 obtain ⟨b3, o_3, q3, cs6, hp3, hq3, -, hr3, hc4⟩ := s6.at hy3
 obtain rfl := qbg hr3
 refine zdxe hp3 hq3 he3 rfl ?_
 refine zd1 rfl ?_
 refine zdc 2 (hc4.below h.below) rfl ?_
 refine zd1 rfl ?_
 refine qbb (fun w4 hb => ?_)
 replace h := h.ext hb
 clear hb
 exact qaH qc h hF ⟨rfl, trivial⟩

def qa0 (y1 : qaa) : Nat → (List Int) → Int → Option ((List Int) × Int)
 | 0, _, _ => none
 | n + 1, x2, i2 =>
  bif decide (i2 > 0) then
   (idx y1.Parent i2).bind fun y7 =>
   (idx x2 y7).bind fun y8 =>
   (idx x2 i2).bind fun y9 =>
   (idx x2 y7).bind fun _ =>
   qa0 y1 n (setS x2 y7 (W64 (y8 + y9))) (W64 (i2 - 1))
  else
   some (x2, i2)

def qa2 (a_0 : ql) (y1 : qaa) (r2 : (List Tplace)) (r3 : (List Int)) : Nat → (List Int) → Int → Option ((List Int) × Int)
 | 0, _, _ => none
 | n + 1, x1, i1 =>
  bif decide (i1 < (r3.length : Int)) then
   (idx r3 i1).bind fun y2 =>
   (idx y1.Sink i1).bind fun y3 =>
   (idx x1 y3).bind fun y4 =>
   (idx r2 y2).bind fun y5 =>
   (qei n (⟨a_0.Design.Instances, a_0.Design.Nets, a_0.Design.Ports⟩ : qj) (⟨a_0.Library.Cells⟩ : qv) y5).bind fun r4 =>
   (idx x1 y3).bind fun _ =>
   qa2 a_0 y1 r2 r3 n (setS x1 y3 (W64 (y4 + r4))) (W64 (i1 + 1))
  else
   some (x1, i1)

def qcq (n : Nat) (a_0 : ql) (a_1 : Int) : Option (List Int) :=
 (idx a_0.Wires a_1).bind fun y1 =>
 (qf6 n y1.Cap).bind fun r1 =>
 (qbF n (⟨a_0.Design.Instances, a_0.Design.Nets, a_0.Design.Ports⟩ : qj)).bind fun r2 =>
 (qed n (⟨a_0.Design.Instances, a_0.Design.Nets, a_0.Design.Ports⟩ : qj) a_1).bind fun r3 =>
 (qa2 a_0 y1 r2 r3 n r1 0).bind fun o => match o with
 | (x1, _) =>
  (qa0 y1 n x1 (W64 ((r1.length : Int) - 1))).bind fun o => match o with
  | (x2, _) =>
   some x2

theorem qeH {n : Nat} {w : World} {a_0 : ql} {a_1 : Int} {cs1 : List Value} (ha1 : GoT.R w (old w) a_0 cs1) {r : (List Int)} (hF : qcq n a_0 a_1 = some r) : RetV Tryz.prog 80 [GoT.v ql cs1, .int .i64 a_1] w r := by
 obtain ⟨p1, k1, p2, k2, p3, k3, p4, k4, p5, k5, rfl, s1, s2, s3, s4, s5⟩ := qag ha1
 refine qe Tryz.func80 rfl (m := 74) rfl rfl (fun h => ?_)
 rw [qcq] at hF
 refine zSR (qN h rfl rfl ?_)
 intro w1 bb1 h
 refine zp1 rfl (zNSR (zp1 rfl (zl 0 4 h rfl (zp1 rfl ?_))))
 obtain ⟨y1, hy1, hF⟩ := qd hF
 have he1 := qf hy1
 obtain ⟨b1, o_1, q1, cs2, hp1, hq1, -, hr1, hc1⟩ := s5.at hy1
 obtain ⟨p6, k6, p7, k7, p8, k8, p9, k9, rfl, s6, s7, s8, s9⟩ := qby hr1
 refine zxe hp1 hq1 he1 rfl (zc 0 (hc1.below h.below) rfl (qW qc h rfl rfl rfl ?_))
 intro w2 bb2 h
 refine zs 0 h rfl ?_
 intro w3 h
 refine zNSR (zp1 rfl (zl 0 2 h rfl ?_))
 obtain ⟨r1, hr2, hF⟩ := qd hF
 refine qas r1 h call132 (qiQ ⟨_, _, rfl, (h.oldS s8)⟩ hr2) rfl rfl rfl rfl ?_
 intro w4 S1 p10 k10 h
 refine zp1 rfl (zNSR (zp1 rfl (zl 2 1 h rfl ?_)))
 obtain ⟨r2, hr3, hF⟩ := qd hF
 refine qas r2 h call76 (qdZ (qaS (⟨a_0.Design.Instances, a_0.Design.Nets, a_0.Design.Ports⟩ : qj) (h.oldS s2) (h.oldS s3) (h.oldS s4)) hr3) rfl rfl rfl rfl ?_
 intro w5 S2 p11 k11 h
 refine zp1 rfl (zNSSR (zp1 rfl (zl 3 1 h rfl (zp1 rfl ?_))))
 obtain ⟨r3, hr4, hF⟩ := qd hF
 refine qas r3 h call133 (qiU (qaS (⟨a_0.Design.Instances, a_0.Design.Nets, a_0.Design.Ports⟩ : qj) (h.oldS s2) (h.oldS s3) (h.oldS s4)) hr4) rfl rfl rfl rfl ?_
 intro w6 S3 p12 k12 h
 refine zp2 rfl (qb ?_)
 obtain ⟨o1, hF, hK1⟩ := qd hF
 refine qw (qP [(2, _), (5, _), (6, _), (7, _), (25, _), (26, _), (27, _)] ⟨rfl, rfl, rfl, rfl, rfl, rfl, rfl, trivial⟩ ?_)
 refine qF (fun m e w' => ∃ (x1 : (List Int)) (i1 : Int), qa2 a_0 y1 r2 r3 m x1 i1 = some o1 ∧ e = [(2, .pointer (some ⟨bb1, 0, none⟩)), (5, .pointer (some ⟨bb2, 0, none⟩)), (6, .slice p10 r1.length k10), (7, .slice p11 r2.length k11), (25, .slice p12 r3.length k12), (26, .int .i64 (r3.length : Int)), (27, .int .i64 i1)] ∧ SH w w' [Ch.own S3 (r3 : List Int) [.slice p12 r3.length k12], Ch.own S2 (r2 : List Tplace) [.slice p11 r2.length k11], Ch.own S1 (x1 : List Int) [.slice p10 r1.length k10], Ch.box bb2 [.slice p6 y1.Parent.length k6, .slice p7 y1.Res.length k7, .slice p8 y1.Cap.length k8, .slice p9 y1.Sink.length k9] 117, Ch.box bb1 [.slice p1 a_0.Library.Cells.length k1, .slice p2 a_0.Design.Instances.length k2, .slice p3 a_0.Design.Nets.length k3, .slice p4 a_0.Design.Ports.length k4, .slice p5 a_0.Wires.length k5] 48]) n ⟨_, _, hF, rfl, h⟩ ?_
 rintro m1 e1 w7 ⟨x1, i1, hF, rfl, h⟩
 rcases m1 with _ | m1
 ·rw [qa2] at hF
  cases hF
 rw [qa2] at hF
 refine zSR (zp1 rfl (zNS ?_))
 refine qu rfl hF ?_ ?_ <;> intro hF
 ·refine zKSBSR (zp1 rfl ?_)
  obtain ⟨y2, hy2, hF⟩ := qd hF
  have he2 := qf hy2
  obtain ⟨b2, o_2, q2, cs3, hp2, hq2, -, hr5, hc3⟩ := (h.sl 0 rfl).1.at hy2
  obtain rfl := hr5
  refine zx hp2 hq2 ⟨he2.1, qY he2.2.1 (h.sl 0 rfl).2⟩ rfl (zc 0 hc3 rfl (zp2 rfl (qb ?_)))
  refine qe5 [19] (fun w' => SH w w' [Ch.own S2 (r2 : List Tplace) [.slice p11 r2.length k11], Ch.own S1 (x1 : List Int) [.slice p10 r1.length k10], Ch.box bb2 [.slice p6 y1.Parent.length k6, .slice p7 y1.Res.length k7, .slice p8 y1.Cap.length k8, .slice p9 y1.Sink.length k9] 117, Ch.box bb1 [.slice p1 a_0.Library.Cells.length k1, .slice p2 a_0.Design.Instances.length k2, .slice p3 a_0.Design.Nets.length k3, .slice p4 a_0.Design.Ports.length k4, .slice p5 a_0.Wires.length k5] 48]) rfl 20 rfl #[ff, ff, ff, ff, ff, ff, ff, ff, ff, ff, ff, ff, ff, ff, ff, ff, ff, ff, ff, ff] (by kernel_rfl) (fun w8 hb => ?_)
  replace h := h.ext hb
  clear hb
  refine qi 0 rfl #[tt, ff, ff, ff, ff, ff, ff, ff, ff, ff, ff, ff, ff, ff, ff, ff, ff, ff, ff, ff] (by kernel_rfl) (by kernel_rfl) (fun w' hw => v_p qc rfl w') (h.pick [1, 2, 3, 4] rfl) rfl ?_
  refine qi 1 rfl #[tt, tt, ff, ff, ff, ff, ff, ff, ff, ff, ff, ff, ff, ff, ff, ff, ff, ff, ff, ff] (by kernel_rfl) (by kernel_rfl) (fun w' hw => v_p qc rfl w') (h.pick [1, 2, 3, 4] rfl) rfl ?_
  refine qi 2 rfl #[tt, tt, tt, ff, ff, ff, ff, ff, ff, ff, ff, ff, ff, ff, ff, ff, ff, ff, ff, ff] (by kernel_rfl) (by kernel_rfl) (fun w' hw => qbj qc (hw.box 2 rfl) (j := 3) rfl rfl rfl) (h.pick [1, 2, 3, 4] rfl) rfl ?_
  refine qi 3 rfl #[tt, tt, tt, tt, ff, ff, ff, ff, ff, ff, ff, ff, ff, ff, ff, ff, ff, ff, ff, ff] (by kernel_rfl) (by kernel_rfl) (fun w' hw => v_p qc rfl w') (h.pick [1, 2, 3, 4] rfl) rfl ?_
  obtain ⟨y3, hy3, hF⟩ := qd hF
  have he3 := qf hy3
  obtain ⟨b3, o_3, q3, cs4, hp3, hq3, -, hr6, hc4⟩ := s9.at hy3
  obtain rfl := hr6
  refine qi 4 rfl #[tt, tt, tt, tt, tt, ff, ff, ff, ff, ff, ff, ff, ff, ff, ff, ff, ff, ff, ff, ff] (by kernel_rfl) (by kernel_rfl) (fun w' hw => qeG qc hp3 hq3 ⟨he3.1, he3.2.1⟩ rfl rfl rfl rfl rfl rfl) (h.pick [1, 2, 3, 4] rfl) rfl ?_
  refine qi 5 rfl #[tt, tt, tt, tt, tt, tt, ff, ff, ff, ff, ff, ff, ff, ff, ff, ff, ff, ff, ff, ff] (by kernel_rfl) (by kernel_rfl) (fun w' hw => qbj qc (hc4.below hw.below) (j := 0) rfl rfl rfl) (h.pick [1, 2, 3, 4] rfl) rfl ?_
  obtain ⟨y4, hy4, hF⟩ := qd hF
  have he4 := qf hy4
  obtain ⟨b4, o_4, q4, cs5, hp4, hq4, -, hr7, hc5⟩ := (h.sl 2 rfl).1.at hy4
  obtain rfl := hr7
  refine qi 6 rfl #[tt, tt, tt, tt, tt, tt, tt, ff, ff, ff, ff, ff, ff, ff, ff, ff, ff, ff, ff, ff] (by kernel_rfl) (by kernel_rfl) (fun w' hw => qeG qc hp4 hq4 ⟨he4.1, qY he4.2.1 (h.sl 2 rfl).2⟩ rfl rfl rfl rfl rfl rfl) (h.pick [1, 2, 3, 4] rfl) rfl ?_
  refine qi 7 rfl #[tt, tt, tt, tt, tt, tt, tt, tt, ff, ff, ff, ff, ff, ff, ff, ff, ff, ff, ff, ff] (by kernel_rfl) (by kernel_rfl) (fun w' hw => qbj qc (qdn (w1 := w) (S1 := fun _ => False) hw 1 rfl hy4 hp4 hq4 rfl) (j := 0) rfl rfl rfl) (h.pick [1, 2, 3, 4] rfl) rfl ?_
  refine qi 8 rfl #[tt, tt, tt, tt, tt, tt, tt, tt, tt, ff, ff, ff, ff, ff, ff, ff, ff, ff, ff, ff] (by kernel_rfl) (by kernel_rfl) (fun w' hw => v_p qc rfl w') (h.pick [1, 2, 3, 4] rfl) rfl ?_
  refine qi 9 rfl #[tt, tt, tt, tt, tt, tt, tt, tt, tt, tt, ff, ff, ff, ff, ff, ff, ff, ff, ff, ff] (by kernel_rfl) (by kernel_rfl) (fun w' hw => qbj qc (hw.box 3 rfl) (j := 1) rfl rfl rfl) (h.pick [1, 2, 3, 4] rfl) rfl ?_
  refine qi 10 rfl #[tt, tt, tt, tt, tt, tt, tt, tt, tt, tt, tt, ff, ff, ff, ff, ff, ff, ff, ff, ff] (by kernel_rfl) (by kernel_rfl) (fun w' hw => v_p qc rfl w') (h.pick [1, 2, 3, 4] rfl) rfl ?_
  refine qi 11 rfl #[tt, tt, tt, tt, tt, tt, tt, tt, tt, tt, tt, tt, ff, ff, ff, ff, ff, ff, ff, ff] (by kernel_rfl) (by kernel_rfl) (fun w' hw => qbj qc (hw.box 3 rfl) (j := 0) rfl rfl rfl) (h.pick [1, 2, 3, 4] rfl) rfl ?_
  refine qi 12 rfl #[tt, tt, tt, tt, tt, tt, tt, tt, tt, tt, tt, tt, tt, ff, ff, ff, ff, ff, ff, ff] (by kernel_rfl) (by kernel_rfl) (fun w' hw => v_p qc rfl w') (h.pick [1, 2, 3, 4] rfl) rfl ?_
  refine qi 13 rfl #[tt, tt, tt, tt, tt, tt, tt, tt, tt, tt, tt, tt, tt, tt, ff, ff, ff, ff, ff, ff] (by kernel_rfl) (by kernel_rfl) (fun w' hw => v_p qc rfl w') (h.pick [1, 2, 3, 4] rfl) rfl ?_
  obtain ⟨y5, hy5, hF⟩ := qd hF
  have he5 := qf hy5
  obtain ⟨b5, o_5, q5, cs6, hp5, hq5, -, hr8, hc6⟩ := (h.sl 1 rfl).1.at hy5
  obtain rfl := qcj hr8
  refine qi 14 rfl #[tt, tt, tt, tt, tt, tt, tt, tt, tt, tt, tt, tt, tt, tt, tt, ff, ff, ff, ff, ff] (by kernel_rfl) (by kernel_rfl) (fun w' hw => qeG qc hp5 hq5 ⟨he5.1, qY he5.2.1 (h.sl 1 rfl).2⟩ rfl rfl rfl rfl rfl rfl) (h.pick [1, 2, 3, 4] rfl) rfl ?_
  refine qi 15 rfl #[tt, tt, tt, tt, tt, tt, tt, tt, tt, tt, tt, tt, tt, tt, tt, tt, ff, ff, ff, ff] (by kernel_rfl) (by kernel_rfl) (fun w' hw => qbj qc (qdn hw 0 rfl hy5 hp5 hq5 (qga (w := w) (S := fun _ => False) y5)) (j := 0) rfl rfl rfl) (h.pick [1, 2, 3, 4] rfl) rfl ?_
  refine qax 16 rfl #[tt, tt, tt, tt, tt, tt, tt, tt, tt, tt, tt, tt, tt, tt, tt, tt, tt, ff, ff, ff] (by kernel_rfl) (by kernel_rfl) ?_
  obtain ⟨r4, hr9, hF⟩ := qd hF
  refine qT r4 h call134 (qi1 (qaS (⟨a_0.Design.Instances, a_0.Design.Nets, a_0.Design.Ports⟩ : qj) (h.oldS s2) (h.oldS s3) (h.oldS s4)) (qcI (⟨a_0.Library.Cells⟩ : qv) (h.oldS s1)) (qga y5) hr9) rfl rfl rfl rfl ?_
  intro w9 h
  refine qan (fun _ => (h.pick [1, 2, 3, 4] rfl)) ?_
  refine qi 17 rfl #[tt, tt, tt, tt, tt, tt, tt, tt, tt, tt, tt, tt, tt, tt, tt, tt, tt, tt, ff, ff] (by kernel_rfl) (by kernel_rfl) (fun w' hw => v_p qc rfl w') (h.pick [1, 2, 3, 4] rfl) rfl ?_
  obtain ⟨y6, hy6, hF⟩ := qd hF
  have he6 := qf hy6
  obtain ⟨b6, o_6, q6, cs7, hp6, hq6, -, hr10, hc7⟩ := (h.sl 2 rfl).1.at hy6
  obtain rfl := hr10
  refine qi 18 rfl #[tt, tt, tt, tt, tt, tt, tt, tt, tt, tt, tt, tt, tt, tt, tt, tt, tt, tt, tt, ff] (by kernel_rfl) (by kernel_rfl) (fun w' hw => qeG qc hp6 hq6 ⟨he6.1, qY he6.2.1 (h.sl 2 rfl).2⟩ rfl rfl rfl rfl rfl rfl) (h.pick [1, 2, 3, 4] rfl) rfl ?_
  refine qax 19 rfl #[tt, tt, tt, tt, tt, tt, tt, tt, tt, tt, tt, tt, tt, tt, tt, tt, tt, tt, tt, tt] (by kernel_rfl) (by kernel_rfl) ?_
  refine qcH qc 2 0 (W64 (y4 + r4)) h rfl hy6 hp6 hq6 rfl hc7 rfl rfl rfl rfl rfl rfl rfl ?_
  intro w10 h
  refine qan (fun hs => absurd (hs 19 (by decide)) (by decide)) ?_
  refine qdm (by kernel_rfl) ?_
  exact qd1 (qA (zp2 rfl (qb (qx m1 [(2, _), (5, _), (6, _), (7, _), (25, _), (26, _), (27, _)] (Nat.lt_succ_self m1) ⟨rfl, rfl, rfl, rfl, rfl, rfl, rfl, trivial⟩ ⟨_, _, hF, rfl, h⟩))))
 refine qE rfl ?_
 obtain rfl := qh hF; replace hF := hK1
 refine zSSR (zp4 rfl (qb ?_))
 obtain ⟨o2, hF, hK2⟩ := qd hF
 refine qw ?_
 replace h := h.pick [2, 3] rfl
 refine qP [(5, _), (6, _), (10, _)] ⟨rfl, rfl, rfl, trivial⟩ ?_
 refine qF (fun m e w' => ∃ (x2 : (List Int)) (i2 : Int), qa0 y1 m x2 i2 = some o2 ∧ e = [(5, .pointer (some ⟨bb2, 0, none⟩)), (6, .slice p10 r1.length k10), (10, .int .i64 i2)] ∧ SH w w' [Ch.own S1 (x2 : List Int) [.slice p10 r1.length k10], Ch.box bb2 [.slice p6 y1.Parent.length k6, .slice p7 y1.Res.length k7, .slice p8 y1.Cap.length k8, .slice p9 y1.Sink.length k9] 117]) n ⟨_, _, hF, rfl, h⟩ ?_
 rintro m2 e2 w11 ⟨x2, i2, hF, rfl, h⟩
 rcases m2 with _ | m2
 ·rw [qa0] at hF
  cases hF
 rw [qa0] at hF
 refine zSSR (zp2 rfl (qb ?_))
 refine qu rfl hF ?_ ?_ <;> intro hF
 ·refine zKSB ?_
  refine qe5 [14] (fun w' => SH w w' [Ch.own S1 (x2 : List Int) [.slice p10 r1.length k10], Ch.box bb2 [.slice p6 y1.Parent.length k6, .slice p7 y1.Res.length k7, .slice p8 y1.Cap.length k8, .slice p9 y1.Sink.length k9] 117]) rfl 15 rfl #[ff, ff, ff, ff, ff, ff, ff, ff, ff, ff, ff, ff, ff, ff, ff] (by kernel_rfl) (fun w12 hb => ?_)
  replace h := h.ext hb
  clear hb
  refine qi 0 rfl #[tt, ff, ff, ff, ff, ff, ff, ff, ff, ff, ff, ff, ff, ff, ff] (by kernel_rfl) (by kernel_rfl) (fun w' hw => v_p qc rfl w') (h.pick [0, 1] rfl) rfl ?_
  refine qi 1 rfl #[tt, tt, ff, ff, ff, ff, ff, ff, ff, ff, ff, ff, ff, ff, ff] (by kernel_rfl) (by kernel_rfl) (fun w' hw => v_p qc rfl w') (h.pick [0, 1] rfl) rfl ?_
  refine qi 2 rfl #[tt, tt, tt, ff, ff, ff, ff, ff, ff, ff, ff, ff, ff, ff, ff] (by kernel_rfl) (by kernel_rfl) (fun w' hw => qbj qc (hw.box 1 rfl) (j := 0) rfl rfl rfl) (h.pick [0, 1] rfl) rfl ?_
  refine qi 3 rfl #[tt, tt, tt, tt, ff, ff, ff, ff, ff, ff, ff, ff, ff, ff, ff] (by kernel_rfl) (by kernel_rfl) (fun w' hw => v_p qc rfl w') (h.pick [0, 1] rfl) rfl ?_
  obtain ⟨y7, hy7, hF⟩ := qd hF
  have he7 := qf hy7
  obtain ⟨b7, o_7, q7, cs8, hp7, hq7, -, hr11, hc9⟩ := s6.at hy7
  obtain rfl := hr11
  refine qi 4 rfl #[tt, tt, tt, tt, tt, ff, ff, ff, ff, ff, ff, ff, ff, ff, ff] (by kernel_rfl) (by kernel_rfl) (fun w' hw => qeG qc hp7 hq7 ⟨he7.1, he7.2.1⟩ rfl rfl rfl rfl rfl rfl) (h.pick [0, 1] rfl) rfl ?_
  refine qi 5 rfl #[tt, tt, tt, tt, tt, tt, ff, ff, ff, ff, ff, ff, ff, ff, ff] (by kernel_rfl) (by kernel_rfl) (fun w' hw => qbj qc (hc9.below hw.below) (j := 0) rfl rfl rfl) (h.pick [0, 1] rfl) rfl ?_
  obtain ⟨y8, hy8, hF⟩ := qd hF
  have he8 := qf hy8
  obtain ⟨b8, o_8, q8, cs9, hp8, hq8, -, hr12, hc10⟩ := (h.sl 0 rfl).1.at hy8
  obtain rfl := hr12
  refine qi 6 rfl #[tt, tt, tt, tt, tt, tt, tt, ff, ff, ff, ff, ff, ff, ff, ff] (by kernel_rfl) (by kernel_rfl) (fun w' hw => qeG qc hp8 hq8 ⟨he8.1, qY he8.2.1 (h.sl 0 rfl).2⟩ rfl rfl rfl rfl rfl rfl) (h.pick [0, 1] rfl) rfl ?_
  refine qi 7 rfl #[tt, tt, tt, tt, tt, tt, tt, tt, ff, ff, ff, ff, ff, ff, ff] (by kernel_rfl) (by kernel_rfl) (fun w' hw => qbj qc (qdn (w1 := w) (S1 := fun _ => False) hw 0 rfl hy8 hp8 hq8 rfl) (j := 0) rfl rfl rfl) (h.pick [0, 1] rfl) rfl ?_
  refine qi 8 rfl #[tt, tt, tt, tt, tt, tt, tt, tt, tt, ff, ff, ff, ff, ff, ff] (by kernel_rfl) (by kernel_rfl) (fun w' hw => v_p qc rfl w') (h.pick [0, 1] rfl) rfl ?_
  refine qi 9 rfl #[tt, tt, tt, tt, tt, tt, tt, tt, tt, tt, ff, ff, ff, ff, ff] (by kernel_rfl) (by kernel_rfl) (fun w' hw => v_p qc rfl w') (h.pick [0, 1] rfl) rfl ?_
  obtain ⟨y9, hy9, hF⟩ := qd hF
  have he9 := qf hy9
  obtain ⟨b9, o_9, q9, cs10, hp9, hq9, -, hr13, hc11⟩ := (h.sl 0 rfl).1.at hy9
  obtain rfl := hr13
  refine qi 10 rfl #[tt, tt, tt, tt, tt, tt, tt, tt, tt, tt, tt, ff, ff, ff, ff] (by kernel_rfl) (by kernel_rfl) (fun w' hw => qeG qc hp9 hq9 ⟨he9.1, qY he9.2.1 (h.sl 0 rfl).2⟩ rfl rfl rfl rfl rfl rfl) (h.pick [0, 1] rfl) rfl ?_
  refine qi 11 rfl #[tt, tt, tt, tt, tt, tt, tt, tt, tt, tt, tt, tt, ff, ff, ff] (by kernel_rfl) (by kernel_rfl) (fun w' hw => qbj qc (qdn (w1 := w) (S1 := fun _ => False) hw 0 rfl hy9 hp9 hq9 rfl) (j := 0) rfl rfl rfl) (h.pick [0, 1] rfl) rfl ?_
  refine qi 12 rfl #[tt, tt, tt, tt, tt, tt, tt, tt, tt, tt, tt, tt, tt, ff, ff] (by kernel_rfl) (by kernel_rfl) (fun w' hw => v_p qc rfl w') (h.pick [0, 1] rfl) rfl ?_
  obtain ⟨y10, hy10, hF⟩ := qd hF
  have he10 := qf hy10
  obtain ⟨b10, o_10, q10, cs11, hp10, hq10, -, hr14, hc12⟩ := (h.sl 0 rfl).1.at hy10
  obtain rfl := hr14
  refine qi 13 rfl #[tt, tt, tt, tt, tt, tt, tt, tt, tt, tt, tt, tt, tt, tt, ff] (by kernel_rfl) (by kernel_rfl) (fun w' hw => qeG qc hp10 hq10 ⟨he10.1, qY he10.2.1 (h.sl 0 rfl).2⟩ rfl rfl rfl rfl rfl rfl) (h.pick [0, 1] rfl) rfl ?_
  refine qax 14 rfl #[tt, tt, tt, tt, tt, tt, tt, tt, tt, tt, tt, tt, tt, tt, tt] (by kernel_rfl) (by kernel_rfl) ?_
  refine qcH qc 0 0 (W64 (y8 + y9)) h rfl hy10 hp10 hq10 rfl hc12 rfl rfl rfl rfl rfl rfl rfl ?_
  intro w13 h
  refine qan (fun hs => absurd (hs 14 (by decide)) (by decide)) ?_
  refine qdm (by kernel_rfl) ?_
  exact qd1 (qA (zp3 rfl (qb (qx m2 [(5, _), (6, _), (10, _)] (Nat.lt_succ_self m2) ⟨rfl, rfl, rfl, trivial⟩ ⟨_, _, hF, rfl, h⟩))))
 refine qE rfl ?_
 obtain rfl := qh hF; replace hF := hK2
 refine zSR (zp2 rfl (qb ?_))
 obtain rfl := qh hF
 exact qae qc (ρ := (List Int)) [GoT.v (List Int) [.slice p10 r1.length k10]] h ⟨rfl, trivial⟩ (PV.done h (qaf (qaC 0 h rfl)))

def qaT (y1 : qaa) (r1 : (List Int)) (x1 : (List Int)) : Nat → (List Int) → Int → Option ((List Int) × Int)
 | 0, _, _ => none
 | n + 1, x2, i1 =>
  bif decide (i1 < (x1.length : Int)) then
   (idx y1.Parent i1).bind fun y2 =>
   (idx x2 y2).bind fun y3 =>
   (idx y1.Res i1).bind fun y4 =>
   (idx r1 i1).bind fun y5 =>
   (idx x2 i1).bind fun _ =>
   qaT y1 r1 x1 n (setS x2 i1 (W64 (y3 + (W64 (y4 * y5))))) (W64 (i1 + 1))
  else
   some (x2, i1)

def qdX (n : Nat) (b : ql) (net : Int) : Option (List Int) :=
 (idx b.Wires net).bind fun y1 =>
 (qcq n b net).bind fun r1 =>
 (mkS (r1.length : Int) (0 : Int)).bind fun x1 =>
 (qaT y1 r1 x1 n x1 1).bind fun o => match o with
 | (x2, _) =>
  some x2

theorem qid {n : Nat} {w : World} {b : ql} {net : Int} {cs1 : List Value} (ha1 : GoT.R w (old w) b cs1) {r : (List Int)} (hF : qdX n b net = some r) : RetV Tryz.prog 135 [GoT.v ql cs1, .int .i64 net] w r := by
 obtain ⟨p1, k1, p2, k2, p3, k3, p4, k4, p5, k5, rfl, s1, s2, s3, s4, s5⟩ := qag ha1
 refine qe Tryz.func135 rfl (m := 49) rfl rfl (fun h => ?_)
 rw [qdX] at hF
 refine zSR (qN h rfl rfl ?_)
 intro w1 bb1 h
 refine zp1 rfl (zNS ?_)
 refine qe5 [] (fun w' => SH w w' [Ch.box bb1 [.slice p1 b.Library.Cells.length k1, .slice p2 b.Design.Instances.length k2, .slice p3 b.Design.Nets.length k3, .slice p4 b.Design.Ports.length k4, .slice p5 b.Wires.length k5] 48]) rfl 11 rfl #[ff, ff, ff, ff, ff, ff, ff, ff, ff, ff, ff] (by kernel_rfl) (fun w2 hb => ?_)
 replace h := h.ext hb
 clear hb
 refine qi 0 rfl #[tt, ff, ff, ff, ff, ff, ff, ff, ff, ff, ff] (by kernel_rfl) (by kernel_rfl) (fun w' hw => v_p qc rfl w') (h.pick [0] rfl) rfl ?_
 refine qi 1 rfl #[tt, tt, ff, ff, ff, ff, ff, ff, ff, ff, ff] (by kernel_rfl) (by kernel_rfl) (fun w' hw => qbj qc (hw.box 0 rfl) (j := 4) rfl rfl rfl) (h.pick [0] rfl) rfl ?_
 refine qi 2 rfl #[tt, tt, tt, ff, ff, ff, ff, ff, ff, ff, ff] (by kernel_rfl) (by kernel_rfl) (fun w' hw => v_p qc rfl w') (h.pick [0] rfl) rfl ?_
 obtain ⟨y1, hy1, hF⟩ := qd hF
 have he1 := qf hy1
 obtain ⟨b1, o_1, q1, cs2, hp1, hq1, -, hr1, hc1⟩ := s5.at hy1
 obtain ⟨p6, k6, p7, k7, p8, k8, p9, k9, rfl, s6, s7, s8, s9⟩ := qby hr1
 refine qi 3 rfl #[tt, tt, tt, tt, ff, ff, ff, ff, ff, ff, ff] (by kernel_rfl) (by kernel_rfl) (fun w' hw => qeG qc hp1 hq1 ⟨he1.1, he1.2.1⟩ rfl rfl rfl rfl rfl rfl) (h.pick [0] rfl) rfl ?_
 refine qi 4 rfl #[tt, tt, tt, tt, tt, ff, ff, ff, ff, ff, ff] (by kernel_rfl) (by kernel_rfl) (fun w' hw => qbj qc (hc1.below hw.below) (j := 0) rfl rfl rfl) (h.pick [0] rfl) rfl ?_
 refine qi 5 rfl #[tt, tt, tt, tt, tt, tt, ff, ff, ff, ff, ff] (by kernel_rfl) (by kernel_rfl) (fun w' hw => qbj qc (hw.box 0 rfl) (j := 0) rfl rfl rfl) (h.pick [0] rfl) rfl ?_
 refine qi 6 rfl #[tt, tt, tt, tt, tt, tt, tt, ff, ff, ff, ff] (by kernel_rfl) (by kernel_rfl) (fun w' hw => v_p qc rfl w') (h.pick [0] rfl) rfl ?_
 obtain ⟨r1, hr2, hF⟩ := qd hF
 refine qox (fun e w' => ∃ (bb8 : Nat) (S7 : Nat → Prop) (p16 : Option Addr) (k16 : Nat), e = [(5, .pointer (some ⟨bb8, 0, none⟩)), (6, .slice p16 r1.length k16)] ∧ SH w w' [Ch.box bb8 [.slice p6 y1.Parent.length k6, .slice p7 y1.Res.length k7, .slice p8 y1.Cap.length k8, .slice p9 y1.Sink.length k9] 117, Ch.own S7 (r1 : List Int) [.slice p16 r1.length k16], Ch.box bb1 [.slice p1 b.Library.Cells.length k1, .slice p2 b.Design.Instances.length k2, .slice p3 b.Design.Nets.length k3, .slice p4 b.Design.Ports.length k4, .slice p5 b.Wires.length k5] 48]) 0 #[tt, tt, tt, tt, tt, tt, tt, tt, tt, tt, tt] ?_ ?_
 ·intro K
  refine qqZ 7 8 rfl rfl #[tt, tt, tt, tt, tt, tt, tt, tt, ff, ff, ff] #[tt, tt, tt, tt, tt, tt, tt, ff, tt, ff, ff] (by kernel_rfl) (by kernel_rfl) (by kernel_rfl) ?_ ?_
  ·refine qas r1 h call80 (qeH (h.old ha1) hr2) rfl rfl rfl rfl ?_
   intro w13 S5 p14 k14 h
   refine qan (fun _ => (h.pick [1] rfl)) ?_
   refine qax 8 rfl #[tt, tt, tt, tt, tt, tt, tt, tt, tt, ff, ff] (by kernel_rfl) (by kernel_rfl) ?_
   refine qW qc h rfl rfl rfl ?_
   intro w14 bb6 h
   refine qan (fun _ => (h.pick [2] rfl)) ?_
   refine qax 9 rfl #[tt, tt, tt, tt, tt, tt, tt, tt, tt, tt, ff] (by kernel_rfl) (by kernel_rfl) ?_
   refine zs 0 h rfl ?_
   intro w15 h
   refine qan (fun _ => (h.pick [2] rfl)) ?_
   refine qi 10 rfl #[tt, tt, tt, tt, tt, tt, tt, tt, tt, tt, tt] (by kernel_rfl) (by kernel_rfl) (fun w' hw => v_p qc rfl w') (h.pick [2] rfl) rfl ?_
   exact qov [(5, _), (6, _)] ⟨rfl, rfl, trivial⟩ (K _ _ ⟨_, _, _, _, rfl, h⟩)
  refine qW qc h rfl rfl rfl ?_
  intro w16 bb7 h
  refine qan (fun _ => (h.pick [1] rfl)) ?_
  refine qax 7 rfl #[tt, tt, tt, tt, tt, tt, tt, tt, tt, ff, ff] (by kernel_rfl) (by kernel_rfl) ?_
  refine qas r1 h call80 (qeH (h.old ha1) hr2) rfl rfl rfl rfl ?_
  intro w17 S6 p15 k15 h
  refine qan (fun _ => (h.pick [2] rfl)) ?_
  refine qax 9 rfl #[tt, tt, tt, tt, tt, tt, tt, tt, tt, tt, ff] (by kernel_rfl) (by kernel_rfl) ?_
  refine zs 1 h rfl ?_
  intro w18 h
  replace h : SH _ _ [Ch.own S6 (r1 : List Int) [.slice p15 r1.length k15], Ch.box bb7 [.slice p6 y1.Parent.length k6, .slice p7 y1.Res.length k7, .slice p8 y1.Cap.length k8, .slice p9 y1.Sink.length k9] 117, Ch.box bb1 [.slice p1 b.Library.Cells.length k1, .slice p2 b.Design.Instances.length k2, .slice p3 b.Design.Nets.length k3, .slice p4 b.Design.Ports.length k4, .slice p5 b.Wires.length k5] 48] := h
  refine qan (fun _ => (h.pick [2] rfl)) ?_
  refine qi 10 rfl #[tt, tt, tt, tt, tt, tt, tt, tt, tt, tt, tt] (by kernel_rfl) (by kernel_rfl) (fun w' hw => v_p qc rfl w') (h.pick [2] rfl) rfl ?_
  replace h := h.pick [1, 0, 2] rfl
  exact qov [(5, _), (6, _)] ⟨rfl, rfl, trivial⟩ (K _ _ ⟨_, _, _, _, rfl, h⟩)
 rintro e2 w19 ⟨bb8, S7, p16, k16, rfl, h⟩
 refine qdm (by kernel_rfl) ?_
 refine zSR (zp2 rfl ?_)
 obtain ⟨x1, hx1, hF⟩ := qd hF
 obtain ⟨g1, g2, hx1⟩ := qcn hx1
 refine qdo qc Int h rfl rfl rfl rfl rfl rfl rfl rfl rfl g1 g2 hx1 rfl ?_
 intro w20 S8 p17 h
 refine zp1 rfl (zNSSR (zp1 rfl (qb ?_)))
 obtain ⟨o1, hF, hK1⟩ := qd hF
 refine qw ?_
 replace h := h.pick [0, 1, 2] rfl
 refine qP [(5, _), (6, _), (7, _), (8, _)] ⟨rfl, rfl, rfl, rfl, trivial⟩ ?_
 refine qF (fun m e w' => ∃ (x2 : (List Int)) (i1 : Int), qaT y1 r1 x1 m x2 i1 = some o1 ∧ e = [(5, .pointer (some ⟨bb8, 0, none⟩)), (6, .slice p16 r1.length k16), (7, .slice p17 x1.length x1.length), (8, .int .i64 i1)] ∧ SH w w' [Ch.own S8 (x2 : List Int) [.slice p17 x1.length x1.length], Ch.box bb8 [.slice p6 y1.Parent.length k6, .slice p7 y1.Res.length k7, .slice p8 y1.Cap.length k8, .slice p9 y1.Sink.length k9] 117, Ch.own S7 (r1 : List Int) [.slice p16 r1.length k16]]) n ⟨_, _, hF, rfl, h⟩ ?_
 rintro m1 e3 w21 ⟨x2, i1, hF, rfl, h⟩
 rcases m1 with _ | m1
 ·rw [qaT] at hF
  cases hF
 rw [qaT] at hF
 refine zSSR (zp4 rfl (qb ?_))
 refine qu rfl hF ?_ ?_ <;> intro hF
 ·refine zKSB ?_
  refine qe5 [22] (fun w' => SH w w' [Ch.own S8 (x2 : List Int) [.slice p17 x1.length x1.length], Ch.box bb8 [.slice p6 y1.Parent.length k6, .slice p7 y1.Res.length k7, .slice p8 y1.Cap.length k8, .slice p9 y1.Sink.length k9] 117, Ch.own S7 (r1 : List Int) [.slice p16 r1.length k16]]) rfl 23 rfl #[ff, ff, ff, ff, ff, ff, ff, ff, ff, ff, ff, ff, ff, ff, ff, ff, ff, ff, ff, ff, ff, ff, ff] (by kernel_rfl) (fun w22 hb => ?_)
  replace h := h.ext hb
  clear hb
  refine qi 0 rfl #[tt, ff, ff, ff, ff, ff, ff, ff, ff, ff, ff, ff, ff, ff, ff, ff, ff, ff, ff, ff, ff, ff, ff] (by kernel_rfl) (by kernel_rfl) (fun w' hw => v_p qc rfl w') (h.pick [0, 1, 2] rfl) rfl ?_
  refine qi 1 rfl #[tt, tt, ff, ff, ff, ff, ff, ff, ff, ff, ff, ff, ff, ff, ff, ff, ff, ff, ff, ff, ff, ff, ff] (by kernel_rfl) (by kernel_rfl) (fun w' hw => v_p qc rfl w') (h.pick [0, 1, 2] rfl) rfl ?_
  refine qi 2 rfl #[tt, tt, tt, ff, ff, ff, ff, ff, ff, ff, ff, ff, ff, ff, ff, ff, ff, ff, ff, ff, ff, ff, ff] (by kernel_rfl) (by kernel_rfl) (fun w' hw => v_p qc rfl w') (h.pick [0, 1, 2] rfl) rfl ?_
  refine qi 3 rfl #[tt, tt, tt, tt, ff, ff, ff, ff, ff, ff, ff, ff, ff, ff, ff, ff, ff, ff, ff, ff, ff, ff, ff] (by kernel_rfl) (by kernel_rfl) (fun w' hw => v_p qc rfl w') (h.pick [0, 1, 2] rfl) rfl ?_
  refine qi 4 rfl #[tt, tt, tt, tt, tt, ff, ff, ff, ff, ff, ff, ff, ff, ff, ff, ff, ff, ff, ff, ff, ff, ff, ff] (by kernel_rfl) (by kernel_rfl) (fun w' hw => qbj qc (hw.box 1 rfl) (j := 0) rfl rfl rfl) (h.pick [0, 1, 2] rfl) rfl ?_
  refine qi 5 rfl #[tt, tt, tt, tt, tt, tt, ff, ff, ff, ff, ff, ff, ff, ff, ff, ff, ff, ff, ff, ff, ff, ff, ff] (by kernel_rfl) (by kernel_rfl) (fun w' hw => v_p qc rfl w') (h.pick [0, 1, 2] rfl) rfl ?_
  obtain ⟨y2, hy2, hF⟩ := qd hF
  have he2 := qf hy2
  obtain ⟨b2, o_2, q2, cs3, hp2, hq2, -, hr3, hc3⟩ := s6.at hy2
  obtain rfl := hr3
  refine qi 6 rfl #[tt, tt, tt, tt, tt, tt, tt, ff, ff, ff, ff, ff, ff, ff, ff, ff, ff, ff, ff, ff, ff, ff, ff] (by kernel_rfl) (by kernel_rfl) (fun w' hw => qeG qc hp2 hq2 ⟨he2.1, he2.2.1⟩ rfl rfl rfl rfl rfl rfl) (h.pick [0, 1, 2] rfl) rfl ?_
  refine qi 7 rfl #[tt, tt, tt, tt, tt, tt, tt, tt, ff, ff, ff, ff, ff, ff, ff, ff, ff, ff, ff, ff, ff, ff, ff] (by kernel_rfl) (by kernel_rfl) (fun w' hw => qbj qc (hc3.below hw.below) (j := 0) rfl rfl rfl) (h.pick [0, 1, 2] rfl) rfl ?_
  obtain ⟨y3, hy3, hF⟩ := qd hF
  have he3 := qf hy3
  obtain ⟨b3, o_3, q3, cs4, hp3, hq3, -, hr4, hc4⟩ := (h.sl 0 rfl).1.at hy3
  obtain rfl := hr4
  refine qi 8 rfl #[tt, tt, tt, tt, tt, tt, tt, tt, tt, ff, ff, ff, ff, ff, ff, ff, ff, ff, ff, ff, ff, ff, ff] (by kernel_rfl) (by kernel_rfl) (fun w' hw => qeG qc hp3 hq3 ⟨he3.1, qY he3.2.1 (h.sl 0 rfl).2⟩ rfl rfl rfl rfl rfl rfl) (h.pick [0, 1, 2] rfl) rfl ?_
  refine qi 9 rfl #[tt, tt, tt, tt, tt, tt, tt, tt, tt, tt, ff, ff, ff, ff, ff, ff, ff, ff, ff, ff, ff, ff, ff] (by kernel_rfl) (by kernel_rfl) (fun w' hw => qbj qc (qdn (w1 := w) (S1 := fun _ => False) hw 0 rfl hy3 hp3 hq3 rfl) (j := 0) rfl rfl rfl) (h.pick [0, 1, 2] rfl) rfl ?_
  refine qi 10 rfl #[tt, tt, tt, tt, tt, tt, tt, tt, tt, tt, tt, ff, ff, ff, ff, ff, ff, ff, ff, ff, ff, ff, ff] (by kernel_rfl) (by kernel_rfl) (fun w' hw => v_p qc rfl w') (h.pick [0, 1, 2] rfl) rfl ?_
  refine qi 11 rfl #[tt, tt, tt, tt, tt, tt, tt, tt, tt, tt, tt, tt, ff, ff, ff, ff, ff, ff, ff, ff, ff, ff, ff] (by kernel_rfl) (by kernel_rfl) (fun w' hw => qbj qc (hw.box 1 rfl) (j := 1) rfl rfl rfl) (h.pick [0, 1, 2] rfl) rfl ?_
  refine qi 12 rfl #[tt, tt, tt, tt, tt, tt, tt, tt, tt, tt, tt, tt, tt, ff, ff, ff, ff, ff, ff, ff, ff, ff, ff] (by kernel_rfl) (by kernel_rfl) (fun w' hw => v_p qc rfl w') (h.pick [0, 1, 2] rfl) rfl ?_
  obtain ⟨y4, hy4, hF⟩ := qd hF
  have he4 := qf hy4
  obtain ⟨b4, o_4, q4, cs5, hp4, hq4, -, hr5, hc5⟩ := s7.at hy4
  obtain rfl := hr5
  refine qi 13 rfl #[tt, tt, tt, tt, tt, tt, tt, tt, tt, tt, tt, tt, tt, tt, ff, ff, ff, ff, ff, ff, ff, ff, ff] (by kernel_rfl) (by kernel_rfl) (fun w' hw => qeG qc hp4 hq4 ⟨he4.1, he4.2.1⟩ rfl rfl rfl rfl rfl rfl) (h.pick [0, 1, 2] rfl) rfl ?_
  refine qi 14 rfl #[tt, tt, tt, tt, tt, tt, tt, tt, tt, tt, tt, tt, tt, tt, tt, ff, ff, ff, ff, ff, ff, ff, ff] (by kernel_rfl) (by kernel_rfl) (fun w' hw => qbj qc (hc5.below hw.below) (j := 0) rfl rfl rfl) (h.pick [0, 1, 2] rfl) rfl ?_
  refine qi 15 rfl #[tt, tt, tt, tt, tt, tt, tt, tt, tt, tt, tt, tt, tt, tt, tt, tt, ff, ff, ff, ff, ff, ff, ff] (by kernel_rfl) (by kernel_rfl) (fun w' hw => v_p qc rfl w') (h.pick [0, 1, 2] rfl) rfl ?_
  refine qi 16 rfl #[tt, tt, tt, tt, tt, tt, tt, tt, tt, tt, tt, tt, tt, tt, tt, tt, tt, ff, ff, ff, ff, ff, ff] (by kernel_rfl) (by kernel_rfl) (fun w' hw => v_p qc rfl w') (h.pick [0, 1, 2] rfl) rfl ?_
  obtain ⟨y5, hy5, hF⟩ := qd hF
  have he5 := qf hy5
  obtain ⟨b5, o_5, q5, cs6, hp5, hq5, -, hr6, hc6⟩ := (h.sl 2 rfl).1.at hy5
  obtain rfl := hr6
  refine qi 17 rfl #[tt, tt, tt, tt, tt, tt, tt, tt, tt, tt, tt, tt, tt, tt, tt, tt, tt, tt, ff, ff, ff, ff, ff] (by kernel_rfl) (by kernel_rfl) (fun w' hw => qeG qc hp5 hq5 ⟨he5.1, qY he5.2.1 (h.sl 2 rfl).2⟩ rfl rfl rfl rfl rfl rfl) (h.pick [0, 1, 2] rfl) rfl ?_
  refine qi 18 rfl #[tt, tt, tt, tt, tt, tt, tt, tt, tt, tt, tt, tt, tt, tt, tt, tt, tt, tt, tt, ff, ff, ff, ff] (by kernel_rfl) (by kernel_rfl) (fun w' hw => qbj qc (qdn (w1 := w) (S1 := fun _ => False) hw 2 rfl hy5 hp5 hq5 rfl) (j := 0) rfl rfl rfl) (h.pick [0, 1, 2] rfl) rfl ?_
  refine qi 19 rfl #[tt, tt, tt, tt, tt, tt, tt, tt, tt, tt, tt, tt, tt, tt, tt, tt, tt, tt, tt, tt, ff, ff, ff] (by kernel_rfl) (by kernel_rfl) (fun w' hw => v_p qc rfl w') (h.pick [0, 1, 2] rfl) rfl ?_
  refine qi 20 rfl #[tt, tt, tt, tt, tt, tt, tt, tt, tt, tt, tt, tt, tt, tt, tt, tt, tt, tt, tt, tt, tt, ff, ff] (by kernel_rfl) (by kernel_rfl) (fun w' hw => v_p qc rfl w') (h.pick [0, 1, 2] rfl) rfl ?_
  obtain ⟨y6, hy6, hF⟩ := qd hF
  have he6 := qf hy6
  obtain ⟨b6, o_6, q6, cs7, hp6, hq6, -, hr7, hc7⟩ := (h.sl 0 rfl).1.at hy6
  obtain rfl := hr7
  refine qi 21 rfl #[tt, tt, tt, tt, tt, tt, tt, tt, tt, tt, tt, tt, tt, tt, tt, tt, tt, tt, tt, tt, tt, tt, ff] (by kernel_rfl) (by kernel_rfl) (fun w' hw => qeG qc hp6 hq6 ⟨he6.1, qY he6.2.1 (h.sl 0 rfl).2⟩ rfl rfl rfl rfl rfl rfl) (h.pick [0, 1, 2] rfl) rfl ?_
  refine qax 22 rfl #[tt, tt, tt, tt, tt, tt, tt, tt, tt, tt, tt, tt, tt, tt, tt, tt, tt, tt, tt, tt, tt, tt, tt] (by kernel_rfl) (by kernel_rfl) ?_
  refine qcH qc 0 0 (W64 (y3 + (W64 (y4 * y5)))) h rfl hy6 hp6 hq6 rfl hc7 rfl rfl rfl rfl rfl rfl rfl ?_
  intro w23 h
  refine qan (fun hs => absurd (hs 22 (by decide)) (by decide)) ?_
  refine qdm (by kernel_rfl) ?_
  exact qd1 (qA (zp3 rfl (qb (qx m1 [(5, _), (6, _), (7, _), (8, _)] (Nat.lt_succ_self m1) ⟨rfl, rfl, rfl, rfl, trivial⟩ ⟨_, _, hF, rfl, h⟩))))
 refine qE rfl ?_
 obtain rfl := qh hF; replace hF := hK1
 refine zSR (zp2 rfl (qb ?_))
 obtain rfl := qh hF
 exact qae qc (ρ := (List Int)) [GoT.v (List Int) [.slice p17 x1.length x1.length]] h ⟨rfl, trivial⟩ (PV.done h (qaf (qaC 0 h rfl)))

def qaK (r1 : (List Int)) (y1 : qaa) : Nat → (List Int) → Int → Option ((List Int) × Int)
 | 0, _, _ => none
 | n + 1, x1, i1 =>
  bif decide (i1 < (y1.Sink.length : Int)) then
   (idx y1.Sink i1).bind fun y2 =>
   (idx r1 y2).bind fun y3 =>
   (appS x1 ([y3] : List Int)).bind fun x2 =>
   qaK r1 y1 n x2 (W64 (i1 + 1))
  else
   some (x1, i1)

def qcN (n : Nat) (b : ql) (net : Int) : Option (List Int) :=
 (qdX n b net).bind fun r1 =>
 (idx b.Wires net).bind fun y1 =>
 (qaK r1 y1 n ([] : List Int) 0).bind fun o => match o with
 | (x1, _) =>
  some x1

theorem qh2 {n : Nat} {w : World} {b : ql} {net : Int} {cs1 : List Value} (ha1 : GoT.R w (old w) b cs1) {r : (List Int)} (hF : qcN n b net = some r) : RetV Tryz.prog 81 [GoT.v ql cs1, .int .i64 net] w r := by
 obtain ⟨p1, k1, p2, k2, p3, k3, p4, k4, p5, k5, rfl, s1, s2, s3, s4, s5⟩ := qag ha1
 refine qe Tryz.func81 rfl (m := 32) rfl rfl (fun h => ?_)
 rw [qcN] at hF
 refine zSR (qN h rfl rfl ?_)
 intro w1 bb1 h
 refine zp1 rfl (zNSR (zl 0 0 h rfl (zp1 rfl ?_)))
 obtain ⟨r1, hr1, hF⟩ := qd hF
 refine qas r1 h call135 (qid (h.old ha1) hr1) rfl rfl rfl rfl ?_
 intro w2 S1 p6 k6 h
 refine zp1 rfl (zNSR (zp1 rfl (zNSSR (zp1 rfl (zl 1 4 h rfl (zp1 rfl ?_))))))
 obtain ⟨y1, hy1, hF⟩ := qd hF
 have he1 := qf hy1
 obtain ⟨b1, o_1, q1, cs2, hp1, hq1, -, hr2, hc1⟩ := s5.at hy1
 obtain ⟨p7, k7, p8, k8, p9, k9, p10, k10, rfl, s6, s7, s8, s9⟩ := qby hr2
 refine zxe hp1 hq1 he1 rfl (zp1 rfl (zc 3 (hc1.below h.below) rfl (zp2 rfl (qb ?_))))
 replace h := h.nil (α := Int)
 obtain ⟨o1, hF, hK1⟩ := qd hF
 refine qw ?_
 replace h := h.pick [0, 1] rfl
 refine qP [(5, _), (6, _), (17, _), (18, _), (19, _)] ⟨rfl, rfl, rfl, rfl, rfl, trivial⟩ ?_
 refine qF (fun m e w' => ∃ (S2 : Nat → Prop) (p11 : Option Addr) (ln1 : Nat) (k11 : Nat) (x1 : (List Int)) (i1 : Int), qaK r1 y1 m x1 i1 = some o1 ∧ e = [(5, .slice p6 r1.length k6), (6, .slice p11 ln1 k11), (17, .slice p10 y1.Sink.length k10), (18, .int .i64 (y1.Sink.length : Int)), (19, .int .i64 i1)] ∧ SH w w' [Ch.own S2 (x1 : List Int) [.slice p11 ln1 k11], Ch.own S1 (r1 : List Int) [.slice p6 r1.length k6]]) n ⟨_, _, _, _, _, _, hF, rfl, h⟩ ?_
 rintro m1 e1 w3 ⟨S2, p11, ln1, k11, x1, i1, hF, rfl, h⟩
 obtain rfl := (h.sl 0 rfl).2
 rcases m1 with _ | m1
 ·rw [qaK] at hF
  cases hF
 rw [qaK] at hF
 refine zSR (zp1 rfl (zNS ?_))
 refine qu rfl hF ?_ ?_ <;> intro hF
 ·refine zKSBSR ?_
  obtain ⟨y2, hy2, hF⟩ := qd hF
  have he2 := qf hy2
  obtain ⟨b2, o_2, q2, cs3, hp2, hq2, -, hr3, hc3⟩ := s9.at hy2
  obtain rfl := hr3
  refine zxe hp2 hq2 he2 rfl (zc 0 (hc3.below h.below) rfl (zp1 rfl (qb (qA (zp3 rfl ?_)))))
  obtain ⟨y3, hy3, hF⟩ := qd hF
  have he3 := qf hy3
  obtain ⟨b3, o_3, q3, cs4, hp3, hq3, -, hr4, hc4⟩ := (h.sl 1 rfl).1.at hy3
  obtain rfl := hr4
  refine zx hp3 hq3 ⟨he3.1, qY he3.2.1 (h.sl 1 rfl).2⟩ rfl (zc 0 hc4 rfl (qat qc [.tmp 27] _ ([y3] : List Int) h rfl rfl rfl rfl rfl rfl rfl rfl rfl ⟨rfl, trivial⟩ rfl ?_))
  intro w4 p12 S3 h
  obtain ⟨x2, hx1, hF⟩ := qd hF
  obtain ⟨g1, hx1⟩ := qa4 hx1
  refine qdG qc 1 h rfl (h.sl 0 rfl).1 (h.sl 0 rfl).2 rfl rfl rfl rfl rfl rfl rfl rfl rfl g1 hx1 rfl ?_
  intro w5 p13 k12 S4 h
  refine zp1 rfl (zNER (zp2 rfl (qb ?_)))
  replace h := h.pick [1, 2] rfl
  exact qx m1 [(5, _), (6, _), (17, _), (18, _), (19, _)] (Nat.lt_succ_self m1) ⟨rfl, rfl, rfl, rfl, rfl, trivial⟩ ⟨_, _, _, _, _, _, hF, rfl, h⟩
 refine qE rfl ?_
 obtain rfl := qh hF; replace hF := hK1
 refine zSR (zp2 rfl (qb ?_))
 obtain rfl := qh hF
 exact qae qc (ρ := (List Int)) [GoT.v (List Int) [.slice p11 x1.length k11]] h ⟨rfl, trivial⟩ (PV.done h (qaf (qaC 0 h rfl)))

def qcc (x6 : (List Int)) (i4 : Int) (i5 : Int) (y7 : Int) : Nat → (List qa9) → Int → Option ((List qa9) × Int)
 | 0, _, _ => none
 | n + 1, x14, i6 =>
  bif decide (i6 < 2) then
   (idx x6 i4).bind fun y8 =>
   (appS x14 ([(⟨W64 ((W64 (2 * y8)) + i6), W64 ((W64 (2 * y7)) + i6), 2, i5⟩ : qa9)] : List qa9)).bind fun x15 =>
   qcc x6 i4 i5 y7 n x15 (W64 (i6 + 1))
  else
   some (x14, i6)

def qcf (x6 : (List Int)) (i4 : Int) (y6 : (List Int)) : Nat → (List qa9) → Int → Option ((List qa9) × Int)
 | 0, _, _ => none
 | n + 1, x13, i5 =>
  bif decide (i5 < (y6.length : Int)) then
   (idx y6 i5).bind fun y7 =>
   (qcc x6 i4 i5 y7 n x13 0).bind fun o => match o with
   | (x14, _) =>
    qcf x6 i4 y6 n x14 (W64 (i5 + 1))
  else
   some (x13, i5)

def qcV (a_0 : ql) (x5 : (List (List Int))) (x6 : (List Int)) : Nat → (List (List Int)) → (List Int) → (List qa9) → Int → Option ((List (List Int)) × (List Int) × (List qa9) × Int)
 | 0, _, _, _, _ => none
 | n + 1, x8, x9, x10, i4 =>
  bif decide (i4 < (a_0.Wires.length : Int)) then
   (qcq n a_0 i4).bind fun r4 =>
   (idx r4 0).bind fun y5 =>
   (appS x9 ([y5] : List Int)).bind fun x11 =>
   (qcN n a_0 i4).bind fun r5 =>
   (appS x8 ([r5] : List (List Int))).bind fun x12 =>
   (idx x5 i4).bind fun y6 =>
   (qcf x6 i4 y6 n x10 0).bind fun o => match o with
   | (x13, _) =>
    qcV a_0 x5 x6 n x12 x11 x13 (W64 (i4 + 1))
  else
   some (x8, x9, x10, i4)

def qbL (r1 : (List Tplace)) : Nat → (List (List Int)) → (List Int) → Int → Option ((List (List Int)) × (List Int) × Int)
 | 0, _, _, _ => none
 | n + 1, x5, x6, i3 =>
  bif decide (i3 < (r1.length : Int)) then
   (idx r1 i3).bind fun y2 =>
   bif y2.drives then
    (idx x6 y2.net).bind fun _ =>
    qbL r1 n x5 (setS x6 y2.net i3) (W64 (i3 + 1))
   else
    (idx x5 y2.net).bind fun y4 =>
    (appS y4 ([i3] : List Int)).bind fun x7 =>
    qbL r1 n (setS x5 y2.net x7) x6 (W64 (i3 + 1))
  else
   some (x5, x6, i3)

def qc0 (a_0 : ql) : Nat → (List qa9) → Int → Int → Option ((List qa9) × Int × Int)
 | 0, _, _, _ => none
 | n + 1, x1, i1, i2 =>
  bif decide (i2 < (a_0.Design.Instances.length : Int)) then
   (idx a_0.Design.Instances i2).bind fun y1 =>
   (qde n a_0 y1 i1).bind fun r2 =>
   (appS x1 r2).bind fun x2 =>
   (qa6 n y1.Nets).bind fun r3 =>
   qc0 a_0 n x2 (W64 (i1 + r3)) (W64 (i2 + 1))
  else
   some (x1, i1, i2)

def qgB (n : Nat) (a_0 : ql) : Option (Option Tview) :=
 (qbF n (⟨a_0.Design.Instances, a_0.Design.Nets, a_0.Design.Ports⟩ : qj)).bind fun r1 =>
 (qc0 a_0 n ([] : List qa9) 0 0).bind fun o => match o with
 | (x1, _, _) =>
  (mkS (a_0.Wires.length : Int) (0 : Int)).bind fun x3 =>
  (mkS (a_0.Wires.length : Int) ([] : (List Int))).bind fun x4 =>
  (qbL r1 n x4 x3 0).bind fun o => match o with
  | (x5, x6, _) =>
   (qcV a_0 x5 x6 n ([] : List (List Int)) ([] : List Int) x1 0).bind fun o => match o with
   | (x8, x9, x10, _) =>
    some (some (⟨(⟨(⟨a_0.Library.Cells⟩ : qv), (⟨a_0.Design.Instances, a_0.Design.Nets, a_0.Design.Ports⟩ : qj), a_0.Wires⟩ : ql), r1, x10, x9, x8, []⟩ : Tview))

theorem qk5 {n : Nat} {w : World} {A : Nat → Prop} (hA : ∀ b, A b → old w b) {a_0 : ql} {cs1 : List Value} (ha1 : GoT.R w A a_0 cs1) {r : (Option Tview)} (hF : qgB n a_0 = some r) : RetG Tryz.prog 40 [GoT.v ql cs1] w A r := by
 obtain ⟨p1, k1, p2, k2, p3, k3, p4, k4, p5, k5, rfl, s1, s2, s3, s4, s5⟩ := qag ha1
 have hg := Rg.start hA
 refine qjc Tryz.func40 rfl (m := 156) rfl rfl (fun h => ?_)
 rw [qgB] at hF
 refine zSR (qN h rfl rfl ?_)
 intro w1 bb1 h
 refine zp1 rfl (zNS ?_)
 refine qe5 [] (fun w' => SH w w' [Ch.box bb1 [.slice p1 a_0.Library.Cells.length k1, .slice p2 a_0.Design.Instances.length k2, .slice p3 a_0.Design.Nets.length k3, .slice p4 a_0.Design.Ports.length k4, .slice p5 a_0.Wires.length k5] 48]) rfl 7 rfl #[ff, ff, ff, ff, ff, ff, ff] (by kernel_rfl) (fun w2 hb => ?_)
 replace h := h.ext hb
 clear hb
 refine qi 0 rfl #[tt, ff, ff, ff, ff, ff, ff] (by kernel_rfl) (by kernel_rfl) (fun w' hw => qbj qc (hw.box 0 rfl) (j := 0) rfl rfl rfl) (h.pick [0] rfl) rfl ?_
 refine qi 1 rfl #[tt, tt, ff, ff, ff, ff, ff] (by kernel_rfl) (by kernel_rfl) (fun w' hw => v_p qc rfl w') (h.pick [0] rfl) rfl ?_
 refine qi 2 rfl #[tt, tt, tt, ff, ff, ff, ff] (by kernel_rfl) (by kernel_rfl) (fun w' hw => qbj qc (hw.box 0 rfl) (j := 1) rfl rfl rfl) (h.pick [0] rfl) rfl ?_
 refine qax 3 rfl #[tt, tt, tt, tt, ff, ff, ff] (by kernel_rfl) (by kernel_rfl) ?_
 obtain ⟨r1, hr1, hF⟩ := qd hF
 refine qas r1 h call76 (qdZ (qaS (⟨a_0.Design.Instances, a_0.Design.Nets, a_0.Design.Ports⟩ : qj) (h.oldS (s2.mono hg.old)) (h.oldS (s3.mono hg.old)) (h.oldS (s4.mono hg.old))) hr1) rfl rfl rfl rfl ?_
 intro w3 S1 p6 k6 h
 refine qan (fun _ => (h.pick [1] rfl)) ?_
 refine qi 4 rfl #[tt, tt, tt, tt, tt, ff, ff] (by kernel_rfl) (by kernel_rfl) (fun w' hw => qgF qc [0, 1] [.tmp 15, .tmp 18] rfl rfl rfl rfl rfl rfl rfl rfl) (h.pick [1] rfl) rfl ?_
 refine qax 5 rfl #[tt, tt, tt, tt, tt, tt, ff] (by kernel_rfl) (by kernel_rfl) ?_
 refine qN h rfl rfl ?_
 intro w4 bb2 h
 refine qan (fun _ => (h.pick [2] rfl)) ?_
 refine qi 6 rfl #[tt, tt, tt, tt, tt, tt, tt] (by kernel_rfl) (by kernel_rfl) (fun w' hw => v_p qc rfl w') (h.pick [2] rfl) rfl ?_
 refine qdm (by kernel_rfl) ?_
 refine zSR (zp1 rfl (zNSSR (zp2 rfl (zl 2 1 h rfl (zp2 rfl ?_)))))
 refine qb ?_
 replace h := h.nil (α := qa9)
 obtain ⟨o1, hF, hK1⟩ := qd hF
 refine qw (qP [(1, _), (3, _), (4, _), (23, _), (24, _), (25, _)] ⟨rfl, rfl, rfl, rfl, rfl, rfl, trivial⟩ ?_)
 refine qF (fun m e w' => ∃ (S2 : Nat → Prop) (p7 : Option Addr) (ln1 : Nat) (k7 : Nat) (x1 : (List qa9)) (i1 : Int) (i2 : Int), qc0 a_0 m x1 i1 i2 = some o1 ∧ e = [(1, .pointer (some ⟨bb1, 0, none⟩)), (3, .pointer (some ⟨bb2, 0, none⟩)), (4, .int .i64 i1), (23, .slice p2 a_0.Design.Instances.length k2), (24, .int .i64 (a_0.Design.Instances.length : Int)), (25, .int .i64 i2)] ∧ SH w w' [Ch.own S2 (x1 : List qa9) [.slice p7 ln1 k7], Ch.box bb2 [.slice p1 a_0.Library.Cells.length k1, .slice p2 a_0.Design.Instances.length k2, .slice p3 a_0.Design.Nets.length k3, .slice p4 a_0.Design.Ports.length k4, .slice p5 a_0.Wires.length k5, .slice p6 r1.length k6, .slice p7 ln1 k7, .slice none 0 0, .slice none 0 0, .slice none 0 0] 94, Ch.own S1 (r1 : List Tplace) [.slice p6 r1.length k6], Ch.box bb1 [.slice p1 a_0.Library.Cells.length k1, .slice p2 a_0.Design.Instances.length k2, .slice p3 a_0.Design.Nets.length k3, .slice p4 a_0.Design.Ports.length k4, .slice p5 a_0.Wires.length k5] 48]) n ⟨_, _, _, _, _, _, _, hF, rfl, h⟩ ?_
 rintro m1 e1 w5 ⟨S2, p7, ln1, k7, x1, i1, i2, hF, rfl, h⟩
 obtain rfl := (h.sl 0 rfl).2
 rcases m1 with _ | m1
 ·rw [qc0] at hF
  cases hF
 rw [qc0] at hF
 refine zSR (zp1 rfl (zNS ?_))
 refine qu rfl hF ?_ ?_ <;> intro hF
 ·refine zKSBSR ?_
  obtain ⟨y1, hy1, hF⟩ := qd hF
  have he1 := qf hy1
  obtain ⟨b1, o_1, q1, cs2, hp1, hq1, -, hr2, hc2⟩ := s2.at hy1
  obtain ⟨p8, k8, rfl, s6⟩ := qV hr2
  refine zxe hp1 hq1 he1 rfl (zc 0 (hc2.below h.below) rfl (qW qc h rfl rfl rfl ?_))
  intro w6 bb3 h
  refine zs 0 h rfl ?_
  intro w7 h
  replace h : SH _ _ [Ch.box bb3 [.string y1.Name, .int .i64 y1.Cell, .slice p8 y1.Nets.length k8] 126, Ch.own S2 (x1 : List qa9) [.slice p7 x1.length k7], Ch.box bb2 [.slice p1 a_0.Library.Cells.length k1, .slice p2 a_0.Design.Instances.length k2, .slice p3 a_0.Design.Nets.length k3, .slice p4 a_0.Design.Ports.length k4, .slice p5 a_0.Wires.length k5, .slice p6 r1.length k6, .slice p7 x1.length k7, .slice none 0 0, .slice none 0 0, .slice none 0 0] 94, Ch.own S1 (r1 : List Tplace) [.slice p6 r1.length k6], Ch.box bb1 [.slice p1 a_0.Library.Cells.length k1, .slice p2 a_0.Design.Instances.length k2, .slice p3 a_0.Design.Nets.length k3, .slice p4 a_0.Design.Ports.length k4, .slice p5 a_0.Wires.length k5] 48] := h
  refine zNS ?_
  refine qe5 [12] (fun w' => SH w w' [Ch.box bb3 [.string y1.Name, .int .i64 y1.Cell, .slice p8 y1.Nets.length k8] 126, Ch.box bb2 [.slice p1 a_0.Library.Cells.length k1, .slice p2 a_0.Design.Instances.length k2, .slice p3 a_0.Design.Nets.length k3, .slice p4 a_0.Design.Ports.length k4, .slice p5 a_0.Wires.length k5, .slice p6 r1.length k6, .slice p7 x1.length k7, .slice none 0 0, .slice none 0 0, .slice none 0 0] 94, Ch.box bb1 [.slice p1 a_0.Library.Cells.length k1, .slice p2 a_0.Design.Instances.length k2, .slice p3 a_0.Design.Nets.length k3, .slice p4 a_0.Design.Ports.length k4, .slice p5 a_0.Wires.length k5] 48]) rfl 13 rfl #[ff, ff, ff, ff, ff, ff, ff, ff, ff, ff, ff, ff, ff] (by kernel_rfl) (fun w8 hb => ?_)
  replace h := h.ext hb
  clear hb
  refine qi 0 rfl #[tt, ff, ff, ff, ff, ff, ff, ff, ff, ff, ff, ff, ff] (by kernel_rfl) (by kernel_rfl) (fun w' hw => v_p qc rfl w') (h.pick [0, 2, 4] rfl) rfl ?_
  refine qi 1 rfl #[tt, tt, ff, ff, ff, ff, ff, ff, ff, ff, ff, ff, ff] (by kernel_rfl) (by kernel_rfl) (fun w' hw => v_p qc rfl w') (h.pick [0, 2, 4] rfl) rfl ?_
  refine qi 2 rfl #[tt, tt, tt, ff, ff, ff, ff, ff, ff, ff, ff, ff, ff] (by kernel_rfl) (by kernel_rfl) (fun w' hw => v_p qc rfl w') (h.pick [0, 2, 4] rfl) rfl ?_
  refine qi 3 rfl #[tt, tt, tt, tt, ff, ff, ff, ff, ff, ff, ff, ff, ff] (by kernel_rfl) (by kernel_rfl) (fun w' hw => v_p qc rfl w') (h.pick [0, 2, 4] rfl) rfl ?_
  refine qi 4 rfl #[tt, tt, tt, tt, tt, ff, ff, ff, ff, ff, ff, ff, ff] (by kernel_rfl) (by kernel_rfl) (fun w' hw => qbj qc (hw.box 1 rfl) (j := 6) rfl rfl rfl) (h.pick [0, 2, 4] rfl) rfl ?_
  refine qi 5 rfl #[tt, tt, tt, tt, tt, tt, ff, ff, ff, ff, ff, ff, ff] (by kernel_rfl) (by kernel_rfl) (fun w' hw => qbj qc (hw.box 2 rfl) (j := 0) rfl rfl rfl) (h.pick [0, 2, 4] rfl) rfl ?_
  refine qi 6 rfl #[tt, tt, tt, tt, tt, tt, tt, ff, ff, ff, ff, ff, ff] (by kernel_rfl) (by kernel_rfl) (fun w' hw => qbj qc (hw.box 0 rfl) (j := 0) rfl rfl rfl) (h.pick [0, 2, 4] rfl) rfl ?_
  refine qi 7 rfl #[tt, tt, tt, tt, tt, tt, tt, tt, ff, ff, ff, ff, ff] (by kernel_rfl) (by kernel_rfl) (fun w' hw => v_p qc rfl w') (h.pick [0, 2, 4] rfl) rfl ?_
  refine qax 8 rfl #[tt, tt, tt, tt, tt, tt, tt, tt, tt, ff, ff, ff, ff] (by kernel_rfl) (by kernel_rfl) ?_
  obtain ⟨r2, hr3, hF⟩ := qd hF
  refine qas r2 h call78 (qim (h.old (GoT.mono ha1 hg.old)) (qff y1 (h.oldS (s6.mono hg.old))) hr3) rfl rfl rfl rfl ?_
  intro w9 S3 p9 k9 h
  refine qan (fun _ => (h.pick [1, 3, 5] rfl)) ?_
  refine qax 9 rfl #[tt, tt, tt, tt, tt, tt, tt, tt, tt, tt, ff, ff, ff] (by kernel_rfl) (by kernel_rfl) ?_
  obtain ⟨x2, hx1, hF⟩ := qd hF
  obtain ⟨g1, hx1⟩ := qa4 hx1
  refine qdG qc 2 h rfl (h.sl 0 rfl).1 (h.sl 0 rfl).2 rfl rfl rfl rfl rfl rfl rfl rfl rfl g1 hx1 rfl ?_
  intro w10 p10 k10 S4 h
  refine qan (fun _ => (h.pick [1, 3, 5] rfl)) ?_
  refine qax 10 rfl #[tt, tt, tt, tt, tt, tt, tt, tt, tt, tt, tt, ff, ff] (by kernel_rfl) (by kernel_rfl) ?_
  refine zp1 rfl ?_
  refine qan (fun _ => (h.pick [1, 3, 5] rfl)) ?_
  refine qi 11 rfl #[tt, tt, tt, tt, tt, tt, tt, tt, tt, tt, tt, tt, ff] (by kernel_rfl) (by kernel_rfl) (fun w' hw => v_p qc rfl w') (h.pick [1, 3, 5] rfl) rfl ?_
  refine qax 12 rfl #[tt, tt, tt, tt, tt, tt, tt, tt, tt, tt, tt, tt, tt] (by kernel_rfl) (by kernel_rfl) ?_
  refine zs 3 h rfl ?_
  intro w11 h
  replace h : SH _ _ [Ch.own S3 (r2 : List qa9) [.slice p9 r2.length k9], Ch.box bb3 [.string y1.Name, .int .i64 y1.Cell, .slice p8 y1.Nets.length k8] 126, Ch.own S4 (x2 : List qa9) [.slice p10 x2.length k10], Ch.box bb2 [.slice p1 a_0.Library.Cells.length k1, .slice p2 a_0.Design.Instances.length k2, .slice p3 a_0.Design.Nets.length k3, .slice p4 a_0.Design.Ports.length k4, .slice p5 a_0.Wires.length k5, .slice p6 r1.length k6, .slice p10 x2.length k10, .slice none 0 0, .slice none 0 0, .slice none 0 0] 94, Ch.own S1 (r1 : List Tplace) [.slice p6 r1.length k6], Ch.box bb1 [.slice p1 a_0.Library.Cells.length k1, .slice p2 a_0.Design.Instances.length k2, .slice p3 a_0.Design.Nets.length k3, .slice p4 a_0.Design.Ports.length k4, .slice p5 a_0.Wires.length k5] 48] := h
  refine qan (fun hs => absurd (hs 12 (by decide)) (by decide)) ?_
  refine qdm (by kernel_rfl) ?_
  refine qA (zp2 rfl (zl 1 2 h rfl ?_))
  obtain ⟨r3, hr4, hF⟩ := qd hF
  refine qT r3 h call79 (qct ⟨_, _, rfl, (h.oldS (s6.mono hg.old))⟩ hr4) rfl rfl rfl rfl ?_
  intro w12 h
  refine zp2 rfl (zNER (zp2 rfl (qb ?_)))
  replace h := h.pick [2, 3, 4, 5] rfl
  exact qx m1 [(1, _), (3, _), (4, _), (23, _), (24, _), (25, _)] (Nat.lt_succ_self m1) ⟨rfl, rfl, rfl, rfl, rfl, rfl, trivial⟩ ⟨_, _, _, _, _, _, _, hF, rfl, h⟩
 refine qE rfl ?_
 obtain rfl := qh hF; replace hF := hK1
 refine zSR (zp1 rfl (zl 3 4 h rfl (zp1 rfl ?_)))
 obtain ⟨x3, hx2, hF⟩ := qd hF
 obtain ⟨g2, g3, hx2⟩ := qcn hx2
 refine qdo qc Int h rfl rfl rfl rfl rfl rfl rfl rfl rfl g2 g3 hx2 rfl ?_
 intro w13 S5 p11 h
 refine zp1 rfl (zNSR (zp1 rfl (zl 4 4 h rfl (zp1 rfl ?_))))
 obtain ⟨x4, hx3, hF⟩ := qd hF
 obtain ⟨g4, g5, hx3⟩ := qcn hx3
 refine qdo qc (List Int) h rfl rfl rfl rfl rfl rfl rfl rfl rfl g4 g5 hx3 rfl ?_
 intro w14 S6 p12 h
 refine zp1 rfl (zNSSR (zp3 rfl (zl 3 5 h rfl (zp2 rfl (qb ?_)))))
 obtain ⟨o2, hF, hK2⟩ := qd hF
 refine qw (qP [(1, _), (3, _), (7, _), (8, _), (58, _), (59, _), (60, _)] ⟨rfl, rfl, rfl, rfl, rfl, rfl, rfl, trivial⟩ ?_)
 refine qF (fun m e w' => ∃ (S7 : Nat → Prop) (x5 : (List (List Int))) (x6 : (List Int)) (i3 : Int), qbL r1 m x5 x6 i3 = some o2 ∧ e = [(1, .pointer (some ⟨bb1, 0, none⟩)), (3, .pointer (some ⟨bb2, 0, none⟩)), (7, .slice p11 x3.length x3.length), (8, .slice p12 x4.length x4.length), (58, .slice p6 r1.length k6), (59, .int .i64 (r1.length : Int)), (60, .int .i64 i3)] ∧ SH w w' [Ch.own S7 (x5 : List (List Int)) [.slice p12 x4.length x4.length], Ch.own S5 (x6 : List Int) [.slice p11 x3.length x3.length], Ch.own S2 (x1 : List qa9) [.slice p7 x1.length k7], Ch.box bb2 [.slice p1 a_0.Library.Cells.length k1, .slice p2 a_0.Design.Instances.length k2, .slice p3 a_0.Design.Nets.length k3, .slice p4 a_0.Design.Ports.length k4, .slice p5 a_0.Wires.length k5, .slice p6 r1.length k6, .slice p7 x1.length k7, .slice none 0 0, .slice none 0 0, .slice none 0 0] 94, Ch.own S1 (r1 : List Tplace) [.slice p6 r1.length k6], Ch.box bb1 [.slice p1 a_0.Library.Cells.length k1, .slice p2 a_0.Design.Instances.length k2, .slice p3 a_0.Design.Nets.length k3, .slice p4 a_0.Design.Ports.length k4, .slice p5 a_0.Wires.length k5] 48]) n ⟨_, _, _, _, hF, rfl, h⟩ ?_
 rintro m2 e2 w15 ⟨S7, x5, x6, i3, hF, rfl, h⟩
 rcases m2 with _ | m2
 ·rw [qbL] at hF
  cases hF
 rw [qbL] at hF
 refine zSR (zp1 rfl (zNS ?_))
 refine qu rfl hF ?_ ?_ <;> intro hF
 ·refine zKSBSR (zp1 rfl ?_)
  obtain ⟨y2, hy2, hF⟩ := qd hF
  have he2 := qf hy2
  obtain ⟨b2, o_2, q2, cs3, hp2, hq2, -, hr5, hc4⟩ := (h.sl 4 rfl).1.at hy2
  obtain rfl := qcj hr5
  refine zx hp2 hq2 ⟨he2.1, qY he2.2.1 (h.sl 4 rfl).2⟩ rfl (zc 0 hc4 rfl (qW qc h rfl rfl rfl ?_))
  intro w16 bb4 h
  refine zp1 rfl (zs 0 h rfl ?_)
  intro w17 h
  refine zNSR (zp1 rfl (zl 0 3 h rfl (qb ?_)))
  refine qu rfl hF ?_ ?_ <;> intro hF
  ·refine qA (zp2 rfl (zl 0 2 h rfl (zp1 rfl ?_)))
   obtain ⟨y3, hy3, hF⟩ := qd hF
   have he3 := qf hy3
   obtain ⟨b3, o_3, q3, cs4, hp3, hq3, -, hr6, hc6⟩ := (h.sl 2 rfl).1.at hy3
   obtain rfl := hr6
   refine zx hp3 hq3 ⟨he3.1, qY he3.2.1 (h.sl 2 rfl).2⟩ rfl (qcH qc 2 0 i3 h rfl hy3 hp3 hq3 rfl hc6 rfl rfl rfl rfl rfl rfl rfl ?_)
   intro w18 h
   refine zNER (zp2 rfl (qb ?_))
   replace h := h.pick [1, 2, 3, 4, 5, 6] rfl
   exact qx m2 [(1, _), (3, _), (7, _), (8, _), (58, _), (59, _), (60, _)] (Nat.lt_succ_self m2) ⟨rfl, rfl, rfl, rfl, rfl, rfl, rfl, trivial⟩ ⟨_, _, _, _, hF, rfl, h⟩
  obtain ⟨y4, hy4, hF⟩ := qd hF
  have he4 := qf hy4
  replace h := h.pick [1, 0, 2, 3, 4, 5, 6] rfl
  obtain ⟨S8, S9, cs5, h⟩ := h.take hy4
  obtain ⟨p13, k11, rfl, -⟩ := h.own 0 rfl
  refine qe5 [12] (fun w' => SH w w' [Ch.hole S9 (x5 : List (List Int)) p12 x4.length x4.length (y2.net).toNat [.slice p13 y4.length k11], Ch.box bb4 [.int .i64 y2.instance_, .int .i64 y2.pin, .int .i64 y2.net, .bool y2.drives] 97]) rfl 13 rfl #[ff, ff, ff, ff, ff, ff, ff, ff, ff, ff, ff, ff, ff] (by kernel_rfl) (fun w19 hb => ?_)
  replace h := h.ext hb
  clear hb
  refine qi 0 rfl #[tt, ff, ff, ff, ff, ff, ff, ff, ff, ff, ff, ff, ff] (by kernel_rfl) (by kernel_rfl) (fun w' hw => v_p qc rfl w') (h.pick [1, 2] rfl) rfl ?_
  refine qi 1 rfl #[tt, tt, ff, ff, ff, ff, ff, ff, ff, ff, ff, ff, ff] (by kernel_rfl) (by kernel_rfl) (fun w' hw => v_p qc rfl w') (h.pick [1, 2] rfl) rfl ?_
  refine qi 2 rfl #[tt, tt, tt, ff, ff, ff, ff, ff, ff, ff, ff, ff, ff] (by kernel_rfl) (by kernel_rfl) (fun w' hw => qbj qc (hw.box 1 rfl) (j := 2) rfl rfl rfl) (h.pick [1, 2] rfl) rfl ?_
  refine qi 3 rfl #[tt, tt, tt, tt, ff, ff, ff, ff, ff, ff, ff, ff, ff] (by kernel_rfl) (by kernel_rfl) (fun w' hw => v_p qc rfl w') (h.pick [1, 2] rfl) rfl ?_
  refine qi 4 rfl #[tt, tt, tt, tt, tt, ff, ff, ff, ff, ff, ff, ff, ff] (by kernel_rfl) (by kernel_rfl) (fun w' hw => v_p qc rfl w') (h.pick [1, 2] rfl) rfl ?_
  refine qi 5 rfl #[tt, tt, tt, tt, tt, tt, ff, ff, ff, ff, ff, ff, ff] (by kernel_rfl) (by kernel_rfl) (fun w' hw => qbj qc (hw.box 1 rfl) (j := 2) rfl rfl rfl) (h.pick [1, 2] rfl) rfl ?_
  obtain ⟨b4, hp4, -, -, hl2⟩ := h.holeAt 1 rfl
  obtain ⟨q4, hq4⟩ : ∃ q, q = 0 + (y2.net).toNat * GoT.k (List Int) := ⟨_, rfl⟩
  refine qi 6 rfl #[tt, tt, tt, tt, tt, tt, tt, ff, ff, ff, ff, ff, ff] (by kernel_rfl) (by kernel_rfl) (fun w' hw => qeG qc hp4 hq4 ⟨he4.1, qY he4.2.1 hl2⟩ rfl rfl rfl rfl rfl rfl) (h.pick [1, 2] rfl) rfl ?_
  refine qi 7 rfl #[tt, tt, tt, tt, tt, tt, tt, tt, ff, ff, ff, ff, ff] (by kernel_rfl) (by kernel_rfl) (fun w' hw => qbj qc (qnP hw 0 rfl hp4 hq4) (j := 0) rfl rfl rfl) (h.pick [1, 2] rfl) rfl ?_
  refine qi 8 rfl #[tt, tt, tt, tt, tt, tt, tt, tt, tt, ff, ff, ff, ff] (by kernel_rfl) (by kernel_rfl) (fun w' hw => v_p qc rfl w') (h.pick [1, 2] rfl) rfl ?_
  refine qax 9 rfl #[tt, tt, tt, tt, tt, tt, tt, tt, tt, tt, ff, ff, ff] (by kernel_rfl) (by kernel_rfl) ?_
  refine qat qc [.tmp 80] _ ([i3] : List Int) h rfl rfl rfl rfl rfl rfl rfl rfl rfl ⟨rfl, trivial⟩ rfl ?_
  intro w20 p14 S10 h
  refine qan (fun _ => (h.pick [2, 3] rfl)) ?_
  refine qax 10 rfl #[tt, tt, tt, tt, tt, tt, tt, tt, tt, tt, tt, ff, ff] (by kernel_rfl) (by kernel_rfl) ?_
  obtain ⟨x7, hx4, hF⟩ := qd hF
  obtain ⟨g6, hx4⟩ := qa4 hx4
  refine qdG qc 1 h rfl (h.sl 0 rfl).1 (h.sl 0 rfl).2 rfl rfl rfl rfl rfl rfl rfl rfl rfl g6 hx4 rfl ?_
  intro w21 p15 k12 S11 h
  refine qan (fun _ => (h.pick [2, 3] rfl)) ?_
  obtain ⟨b5, hp5, -, -, hl4⟩ := h.holeAt 2 rfl
  obtain ⟨q5, hq5⟩ : ∃ q, q = 0 + (y2.net).toNat * GoT.k (List Int) := ⟨_, rfl⟩
  refine qi 11 rfl #[tt, tt, tt, tt, tt, tt, tt, tt, tt, tt, tt, tt, ff] (by kernel_rfl) (by kernel_rfl) (fun w' hw => qeG qc hp5 hq5 ⟨he4.1, qY he4.2.1 hl4⟩ rfl rfl rfl rfl rfl rfl) (h.pick [2, 3] rfl) rfl ?_
  refine qax 12 rfl #[tt, tt, tt, tt, tt, tt, tt, tt, tt, tt, tt, tt, tt] (by kernel_rfl) (by kernel_rfl) ?_
  refine qpA qc 2 0 h rfl hp5 hq5 rfl rfl rfl rfl rfl rfl ?_
  intro w22 h
  refine qan (fun hs => absurd (hs 12 (by decide)) (by decide)) ?_
  refine qdm (by kernel_rfl) ?_
  refine qd1 (qA (zp2 rfl (qb ?_)))
  replace h := h.pick [1, 2, 0, 3, 4, 5, 6, 7, 8] rfl
  replace h := h.put
  obtain ⟨S12, h⟩ := qq8 (S := _) h
  replace h := h.pick [0, 3, 4, 5, 6, 7] rfl
  exact qx m2 [(1, _), (3, _), (7, _), (8, _), (58, _), (59, _), (60, _)] (Nat.lt_succ_self m2) ⟨rfl, rfl, rfl, rfl, rfl, rfl, rfl, trivial⟩ ⟨_, _, _, _, hF, rfl, h⟩
 refine qE rfl ?_
 obtain rfl := qh hF; replace hF := hK2
 refine zSSR (zp1 rfl (zl 5 4 h rfl (zp2 rfl (qb ?_))))
 replace h := h.nil (α := Int)
 replace h := h.nil (α := (List Int))
 obtain ⟨o3, hF, hK3⟩ := qd hF
 refine qw (qP [(1, _), (3, _), (7, _), (8, _), (87, _), (88, _)] ⟨rfl, rfl, rfl, rfl, rfl, rfl, trivial⟩ ?_)
 refine qF (fun m e w' => ∃ (S13 : Nat → Prop) (p16 : Option Addr) (ln2 : Nat) (k13 : Nat) (x8 : (List (List Int))) (S14 : Nat → Prop) (p17 : Option Addr) (ln3 : Nat) (k14 : Nat) (x9 : (List Int)) (S15 : Nat → Prop) (p18 : Option Addr) (ln4 : Nat) (k15 : Nat) (x10 : (List qa9)) (i4 : Int), qcV a_0 x5 x6 m x8 x9 x10 i4 = some o3 ∧ e = [(1, .pointer (some ⟨bb1, 0, none⟩)), (3, .pointer (some ⟨bb2, 0, none⟩)), (7, .slice p11 x3.length x3.length), (8, .slice p12 x4.length x4.length), (87, .int .i64 (a_0.Wires.length : Int)), (88, .int .i64 i4)] ∧ SH w w' [Ch.own S13 (x8 : List (List Int)) [.slice p16 ln2 k13], Ch.own S14 (x9 : List Int) [.slice p17 ln3 k14], Ch.own S7 (x5 : List (List Int)) [.slice p12 x4.length x4.length], Ch.own S5 (x6 : List Int) [.slice p11 x3.length x3.length], Ch.own S15 (x10 : List qa9) [.slice p18 ln4 k15], Ch.box bb2 [.slice p1 a_0.Library.Cells.length k1, .slice p2 a_0.Design.Instances.length k2, .slice p3 a_0.Design.Nets.length k3, .slice p4 a_0.Design.Ports.length k4, .slice p5 a_0.Wires.length k5, .slice p6 r1.length k6, .slice p18 ln4 k15, .slice p17 ln3 k14, .slice p16 ln2 k13, .slice none 0 0] 94, Ch.own S1 (r1 : List Tplace) [.slice p6 r1.length k6], Ch.box bb1 [.slice p1 a_0.Library.Cells.length k1, .slice p2 a_0.Design.Instances.length k2, .slice p3 a_0.Design.Nets.length k3, .slice p4 a_0.Design.Ports.length k4, .slice p5 a_0.Wires.length k5] 48]) n ⟨_, _, _, _, _, _, _, _, _, _, _, _, _, _, _, _, hF, rfl, h⟩ ?_
 rintro m3 e3 w23 ⟨S13, p16, ln2, k13, x8, S14, p17, ln3, k14, x9, S15, p18, ln4, k15, x10, i4, hF, rfl, h⟩
 obtain rfl := (h.sl 0 rfl).2
 obtain rfl := (h.sl 1 rfl).2
 obtain rfl := (h.sl 4 rfl).2
 rcases m3 with _ | m3
 ·rw [qcV] at hF
  cases hF
 rw [qcV] at hF
 refine zSR (zp1 rfl (zNS ?_))
 refine qu rfl hF ?_ ?_ <;> intro hF
 ·refine zKSBSR (zp2 rfl (zNS ?_))
  refine qe5 [14] (fun w' => SH w w' [Ch.box bb2 [.slice p1 a_0.Library.Cells.length k1, .slice p2 a_0.Design.Instances.length k2, .slice p3 a_0.Design.Nets.length k3, .slice p4 a_0.Design.Ports.length k4, .slice p5 a_0.Wires.length k5, .slice p6 r1.length k6, .slice p18 x10.length k15, .slice p17 x9.length k14, .slice p16 x8.length k13, .slice none 0 0] 94, Ch.box bb1 [.slice p1 a_0.Library.Cells.length k1, .slice p2 a_0.Design.Instances.length k2, .slice p3 a_0.Design.Nets.length k3, .slice p4 a_0.Design.Ports.length k4, .slice p5 a_0.Wires.length k5] 48]) rfl 15 rfl #[ff, ff, ff, ff, ff, ff, ff, ff, ff, ff, ff, ff, ff, ff, ff] (by kernel_rfl) (fun w24 hb => ?_)
  replace h := h.ext hb
  clear hb
  refine qi 0 rfl #[tt, ff, ff, ff, ff, ff, ff, ff, ff, ff, ff, ff, ff, ff, ff] (by kernel_rfl) (by kernel_rfl) (fun w' hw => v_p qc rfl w') (h.pick [5, 7] rfl) rfl ?_
  refine qi 1 rfl #[tt, tt, ff, ff, ff, ff, ff, ff, ff, ff, ff, ff, ff, ff, ff] (by kernel_rfl) (by kernel_rfl) (fun w' hw => v_p qc rfl w') (h.pick [5, 7] rfl) rfl ?_
  refine qi 2 rfl #[tt, tt, tt, ff, ff, ff, ff, ff, ff, ff, ff, ff, ff, ff, ff] (by kernel_rfl) (by kernel_rfl) (fun w' hw => v_p qc rfl w') (h.pick [5, 7] rfl) rfl ?_
  refine qi 3 rfl #[tt, tt, tt, tt, ff, ff, ff, ff, ff, ff, ff, ff, ff, ff, ff] (by kernel_rfl) (by kernel_rfl) (fun w' hw => v_p qc rfl w') (h.pick [5, 7] rfl) rfl ?_
  refine qi 4 rfl #[tt, tt, tt, tt, tt, ff, ff, ff, ff, ff, ff, ff, ff, ff, ff] (by kernel_rfl) (by kernel_rfl) (fun w' hw => qbj qc (hw.box 0 rfl) (j := 7) rfl rfl rfl) (h.pick [5, 7] rfl) rfl ?_
  refine qi 5 rfl #[tt, tt, tt, tt, tt, tt, ff, ff, ff, ff, ff, ff, ff, ff, ff] (by kernel_rfl) (by kernel_rfl) (fun w' hw => qbj qc (hw.box 1 rfl) (j := 0) rfl rfl rfl) (h.pick [5, 7] rfl) rfl ?_
  refine qi 6 rfl #[tt, tt, tt, tt, tt, tt, tt, ff, ff, ff, ff, ff, ff, ff, ff] (by kernel_rfl) (by kernel_rfl) (fun w' hw => v_p qc rfl w') (h.pick [5, 7] rfl) rfl ?_
  refine qax 7 rfl #[tt, tt, tt, tt, tt, tt, tt, tt, ff, ff, ff, ff, ff, ff, ff] (by kernel_rfl) (by kernel_rfl) ?_
  obtain ⟨r4, hr7, hF⟩ := qd hF
  refine qas r4 h call80 (qeH (h.old (GoT.mono ha1 hg.old)) hr7) rfl rfl rfl rfl ?_
  intro w25 S16 p19 k16 h
  refine qan (fun _ => (h.pick [6, 8] rfl)) ?_
  obtain ⟨y5, hy5, hF⟩ := qd hF
  have he5 := qf hy5
  obtain ⟨b6, o_4, q6, cs6, hp6, hq6, -, hr8, hc8⟩ := (h.sl 0 rfl).1.at hy5
  obtain rfl := hr8
  refine qi 8 rfl #[tt, tt, tt, tt, tt, tt, tt, tt, tt, ff, ff, ff, ff, ff, ff] (by kernel_rfl) (by kernel_rfl) (fun w' hw => qeG qc hp6 hq6 ⟨he5.1, qY he5.2.1 (h.sl 0 rfl).2⟩ rfl rfl rfl rfl rfl rfl) (h.pick [6, 8] rfl) rfl ?_
  refine qax 9 rfl #[tt, tt, tt, tt, tt, tt, tt, tt, tt, tt, ff, ff, ff, ff, ff] (by kernel_rfl) (by kernel_rfl) ?_
  refine zc 0 hc8 rfl ?_
  refine qan (fun _ => (h.pick [6, 8] rfl)) ?_
  refine qax 10 rfl #[tt, tt, tt, tt, tt, tt, tt, tt, tt, tt, tt, ff, ff, ff, ff] (by kernel_rfl) (by kernel_rfl) ?_
  refine qat qc [.tmp 100] _ ([y5] : List Int) h rfl rfl rfl rfl rfl rfl rfl rfl rfl ⟨rfl, trivial⟩ rfl ?_
  intro w26 p20 S17 h
  refine qan (fun _ => (h.pick [7, 9] rfl)) ?_
  refine qax 11 rfl #[tt, tt, tt, tt, tt, tt, tt, tt, tt, tt, tt, tt, ff, ff, ff] (by kernel_rfl) (by kernel_rfl) ?_
  obtain ⟨x11, hx5, hF⟩ := qd hF
  obtain ⟨g7, hx5⟩ := qa4 hx5
  refine qdG qc 3 h rfl (h.sl 0 rfl).1 (h.sl 0 rfl).2 rfl rfl rfl rfl rfl rfl rfl rfl rfl g7 hx5 rfl ?_
  intro w27 p21 k17 S18 h
  refine qan (fun _ => (h.pick [7, 9] rfl)) ?_
  refine qax 12 rfl #[tt, tt, tt, tt, tt, tt, tt, tt, tt, tt, tt, tt, tt, ff, ff] (by kernel_rfl) (by kernel_rfl) ?_
  refine zp1 rfl ?_
  refine qan (fun _ => (h.pick [7, 9] rfl)) ?_
  refine qi 13 rfl #[tt, tt, tt, tt, tt, tt, tt, tt, tt, tt, tt, tt, tt, tt, ff] (by kernel_rfl) (by kernel_rfl) (fun w' hw => v_p qc rfl w') (h.pick [7, 9] rfl) rfl ?_
  refine qax 14 rfl #[tt, tt, tt, tt, tt, tt, tt, tt, tt, tt, tt, tt, tt, tt, tt] (by kernel_rfl) (by kernel_rfl) ?_
  refine zs 7 h rfl ?_
  intro w28 h
  refine qan (fun hs => absurd (hs 14 (by decide)) (by decide)) ?_
  refine qdm (by kernel_rfl) ?_
  refine qbd ?_
  refine qe5 [12] (fun w' => SH w w' [Ch.box bb2 [.slice p1 a_0.Library.Cells.length k1, .slice p2 a_0.Design.Instances.length k2, .slice p3 a_0.Design.Nets.length k3, .slice p4 a_0.Design.Ports.length k4, .slice p5 a_0.Wires.length k5, .slice p6 r1.length k6, .slice p18 x10.length k15, .slice p21 x11.length k17, .slice p16 x8.length k13, .slice none 0 0] 94, Ch.box bb1 [.slice p1 a_0.Library.Cells.length k1, .slice p2 a_0.Design.Instances.length k2, .slice p3 a_0.Design.Nets.length k3, .slice p4 a_0.Design.Ports.length k4, .slice p5 a_0.Wires.length k5] 48]) rfl 13 rfl #[ff, ff, ff, ff, ff, ff, ff, ff, ff, ff, ff, ff, ff] (by kernel_rfl) (fun w29 hb => ?_)
  replace h := h.ext hb
  clear hb
  refine qi 0 rfl #[tt, ff, ff, ff, ff, ff, ff, ff, ff, ff, ff, ff, ff] (by kernel_rfl) (by kernel_rfl) (fun w' hw => v_p qc rfl w') (h.pick [7, 9] rfl) rfl ?_
  refine qi 1 rfl #[tt, tt, ff, ff, ff, ff, ff, ff, ff, ff, ff, ff, ff] (by kernel_rfl) (by kernel_rfl) (fun w' hw => v_p qc rfl w') (h.pick [7, 9] rfl) rfl ?_
  refine qi 2 rfl #[tt, tt, tt, ff, ff, ff, ff, ff, ff, ff, ff, ff, ff] (by kernel_rfl) (by kernel_rfl) (fun w' hw => v_p qc rfl w') (h.pick [7, 9] rfl) rfl ?_
  refine qi 3 rfl #[tt, tt, tt, tt, ff, ff, ff, ff, ff, ff, ff, ff, ff] (by kernel_rfl) (by kernel_rfl) (fun w' hw => v_p qc rfl w') (h.pick [7, 9] rfl) rfl ?_
  refine qi 4 rfl #[tt, tt, tt, tt, tt, ff, ff, ff, ff, ff, ff, ff, ff] (by kernel_rfl) (by kernel_rfl) (fun w' hw => qbj qc (hw.box 0 rfl) (j := 8) rfl rfl rfl) (h.pick [7, 9] rfl) rfl ?_
  refine qi 5 rfl #[tt, tt, tt, tt, tt, tt, ff, ff, ff, ff, ff, ff, ff] (by kernel_rfl) (by kernel_rfl) (fun w' hw => qbj qc (hw.box 1 rfl) (j := 0) rfl rfl rfl) (h.pick [7, 9] rfl) rfl ?_
  refine qi 6 rfl #[tt, tt, tt, tt, tt, tt, tt, ff, ff, ff, ff, ff, ff] (by kernel_rfl) (by kernel_rfl) (fun w' hw => v_p qc rfl w') (h.pick [7, 9] rfl) rfl ?_
  refine qax 7 rfl #[tt, tt, tt, tt, tt, tt, tt, tt, ff, ff, ff, ff, ff] (by kernel_rfl) (by kernel_rfl) ?_
  obtain ⟨r5, hr9, hF⟩ := qd hF
  refine qas r5 h call81 (qh2 (h.old (GoT.mono ha1 hg.old)) hr9) rfl rfl rfl rfl ?_
  intro w30 S19 p22 k18 h
  refine qan (fun _ => (h.pick [8, 10] rfl)) ?_
  refine qax 8 rfl #[tt, tt, tt, tt, tt, tt, tt, tt, tt, ff, ff, ff, ff] (by kernel_rfl) (by kernel_rfl) ?_
  refine qpn qc [.tmp 112] _ ([r5] : List (List Int)) [1, 2, 3, 4, 5, 6, 7, 8, 9, 10] h rfl rfl rfl rfl rfl rfl rfl rfl rfl (qpy (qaC 0 h rfl) qqC rfl) rfl rfl ?_
  intro w31 p23 S20 h
  refine qan (fun _ => (h.pick [8, 10] rfl)) ?_
  refine qax 9 rfl #[tt, tt, tt, tt, tt, tt, tt, tt, tt, tt, ff, ff, ff] (by kernel_rfl) (by kernel_rfl) ?_
  obtain ⟨x12, hx6, hF⟩ := qd hF
  obtain ⟨g8, hx6⟩ := qa4 hx6
  replace h := h.pick [0, 3, 1, 2, 4, 5, 6, 7, 8, 9, 10] rfl
  refine qqz qc h rfl rfl rfl rfl rfl rfl rfl rfl rfl g8 hx6 rfl ?_
  intro w32 p24 k19 S21 h
  refine qan (fun _ => (h.pick [7, 9] rfl)) ?_
  refine qax 10 rfl #[tt, tt, tt, tt, tt, tt, tt, tt, tt, tt, tt, ff, ff] (by kernel_rfl) (by kernel_rfl) ?_
  refine zp1 rfl ?_
  refine qan (fun _ => (h.pick [7, 9] rfl)) ?_
  refine qi 11 rfl #[tt, tt, tt, tt, tt, tt, tt, tt, tt, tt, tt, tt, ff] (by kernel_rfl) (by kernel_rfl) (fun w' hw => v_p qc rfl w') (h.pick [7, 9] rfl) rfl ?_
  refine qax 12 rfl #[tt, tt, tt, tt, tt, tt, tt, tt, tt, tt, tt, tt, tt] (by kernel_rfl) (by kernel_rfl) ?_
  refine zs 7 h rfl ?_
  intro w33 h
  refine qan (fun hs => absurd (hs 12 (by decide)) (by decide)) ?_
  refine qdm (by kernel_rfl) ?_
  refine zSR (zp2 rfl ?_)
  obtain ⟨y6, hy6, hF⟩ := qd hF
  have he6 := qf hy6
  replace h := h.lrn0 4 rfl
  obtain ⟨b7, o_5, q7, cs7, hp7, hq7, -, hr10, hc9⟩ := (qh8 (h.lrnO 4 rfl)).1.at hy6
  have hr11 := hr10
  obtain ⟨p25, k20, rfl, s7⟩ := hr10
  replace h := h.lrnAdd 4 rfl hr11
  refine zx hp7 hq7 ⟨he6.1, qY he6.2.1 (qh8 (h.lrnO 4 rfl)).2⟩ rfl (zc 0 hc9 rfl (zp2 rfl (qb ?_)))
  obtain ⟨o4, hF, hK4⟩ := qd hF
  refine qw ?_
  replace h := h.pick [0, 3, 4, 5, 6, 7, 8, 9] rfl
  refine qP [(1, _), (3, _), (7, _), (8, _), (11, _), (87, _), (88, _), (120, _), (121, _), (122, _)] ⟨rfl, rfl, rfl, rfl, rfl, rfl, rfl, rfl, rfl, rfl, trivial⟩ ?_
  refine qF (fun m e w' => ∃ (S22 : Nat → Prop) (p26 : Option Addr) (ln5 : Nat) (k21 : Nat) (x13 : (List qa9)) (i5 : Int), qcf x6 i4 y6 m x13 i5 = some o4 ∧ e = [(1, .pointer (some ⟨bb1, 0, none⟩)), (3, .pointer (some ⟨bb2, 0, none⟩)), (7, .slice p11 x3.length x3.length), (8, .slice p12 x4.length x4.length), (11, .int .i64 i4), (87, .int .i64 (a_0.Wires.length : Int)), (88, .int .i64 i4), (120, .slice p25 y6.length k20), (121, .int .i64 (y6.length : Int)), (122, .int .i64 i5)] ∧ SH w w' [Ch.own S21 (x12 : List (List Int)) [.slice p24 x12.length k19], Ch.own S18 (x11 : List Int) [.slice p21 x11.length k17], Ch.lrn S7 (x5 : List (List Int)) [.slice p12 x4.length x4.length] [fct (y6 : (List Int)) [.slice p25 y6.length k20]], Ch.own S5 (x6 : List Int) [.slice p11 x3.length x3.length], Ch.own S22 (x13 : List qa9) [.slice p26 ln5 k21], Ch.box bb2 [.slice p1 a_0.Library.Cells.length k1, .slice p2 a_0.Design.Instances.length k2, .slice p3 a_0.Design.Nets.length k3, .slice p4 a_0.Design.Ports.length k4, .slice p5 a_0.Wires.length k5, .slice p6 r1.length k6, .slice p26 ln5 k21, .slice p21 x11.length k17, .slice p24 x12.length k19, .slice none 0 0] 94, Ch.own S1 (r1 : List Tplace) [.slice p6 r1.length k6], Ch.box bb1 [.slice p1 a_0.Library.Cells.length k1, .slice p2 a_0.Design.Instances.length k2, .slice p3 a_0.Design.Nets.length k3, .slice p4 a_0.Design.Ports.length k4, .slice p5 a_0.Wires.length k5] 48]) m3 ⟨_, _, _, _, _, _, hF, rfl, h⟩ ?_
  rintro m4 e4 w34 ⟨S22, p26, ln5, k21, x13, i5, hF, rfl, h⟩
  obtain rfl := (h.sl 4 rfl).2
  rcases m4 with _ | m4
  ·rw [qcf] at hF
   cases hF
  rw [qcf] at hF
  refine zSR (zp1 rfl (zNS ?_))
  refine qu rfl hF ?_ ?_ <;> intro hF
  ·refine zKSBSR (zp1 rfl ?_)
   obtain ⟨y7, hy7, hF⟩ := qd hF
   have he7 := qf hy7
   obtain ⟨b8, o_6, q8, cs8, hp8, hq8, -, hr12, hc11⟩ := (qh8 (GoT.mono (h.lrnS 2 0 rfl rfl) (h.lrnB 2 rfl))).1.at hy7
   obtain rfl := hr12
   refine zx hp8 hq8 ⟨he7.1, qY he7.2.1 (qh8 (GoT.mono (h.lrnS 2 0 rfl rfl) (h.lrnB 2 rfl))).2⟩ rfl (zc 0 hc11 rfl (zp2 rfl (zNSR (zp1 rfl (qb ?_)))))
   obtain ⟨o5, hF, hK5⟩ := qd hF
   refine qw (qP [(1, _), (3, _), (7, _), (8, _), (11, _), (12, _), (13, _), (87, _), (88, _), (120, _), (121, _), (122, _), (127, _)] ⟨rfl, rfl, rfl, rfl, rfl, rfl, rfl, rfl, rfl, rfl, rfl, rfl, rfl, trivial⟩ ?_)
   refine qF (fun m e w' => ∃ (S23 : Nat → Prop) (p27 : Option Addr) (ln6 : Nat) (k22 : Nat) (x14 : (List qa9)) (i6 : Int), qcc x6 i4 i5 y7 m x14 i6 = some o5 ∧ e = [(1, .pointer (some ⟨bb1, 0, none⟩)), (3, .pointer (some ⟨bb2, 0, none⟩)), (7, .slice p11 x3.length x3.length), (8, .slice p12 x4.length x4.length), (11, .int .i64 i4), (12, .int .i64 i5), (13, .int .i64 y7), (87, .int .i64 (a_0.Wires.length : Int)), (88, .int .i64 i4), (120, .slice p25 y6.length k20), (121, .int .i64 (y6.length : Int)), (122, .int .i64 i5), (127, .int .i64 i6)] ∧ SH w w' [Ch.own S21 (x12 : List (List Int)) [.slice p24 x12.length k19], Ch.own S18 (x11 : List Int) [.slice p21 x11.length k17], Ch.lrn S7 (x5 : List (List Int)) [.slice p12 x4.length x4.length] [fct (y6 : (List Int)) [.slice p25 y6.length k20]], Ch.own S5 (x6 : List Int) [.slice p11 x3.length x3.length], Ch.own S23 (x14 : List qa9) [.slice p27 ln6 k22], Ch.box bb2 [.slice p1 a_0.Library.Cells.length k1, .slice p2 a_0.Design.Instances.length k2, .slice p3 a_0.Design.Nets.length k3, .slice p4 a_0.Design.Ports.length k4, .slice p5 a_0.Wires.length k5, .slice p6 r1.length k6, .slice p27 ln6 k22, .slice p21 x11.length k17, .slice p24 x12.length k19, .slice none 0 0] 94, Ch.own S1 (r1 : List Tplace) [.slice p6 r1.length k6], Ch.box bb1 [.slice p1 a_0.Library.Cells.length k1, .slice p2 a_0.Design.Instances.length k2, .slice p3 a_0.Design.Nets.length k3, .slice p4 a_0.Design.Ports.length k4, .slice p5 a_0.Wires.length k5] 48]) m4 ⟨_, _, _, _, _, _, hF, rfl, h⟩ ?_
   rintro m5 e5 w35 ⟨S23, p27, ln6, k22, x14, i6, hF, rfl, h⟩
   obtain rfl := (h.sl 4 rfl).2
   rcases m5 with _ | m5
   ·rw [qcc] at hF
    cases hF
   rw [qcc] at hF
   refine zSR (zp1 rfl (zNS ?_))
   refine qu rfl hF ?_ ?_ <;> intro hF
   ·refine zKSBSR (zp2 rfl (qb ?_))
    refine qe5 [22] (fun w' => SH w w' [Ch.own S5 (x6 : List Int) [.slice p11 x3.length x3.length], Ch.box bb2 [.slice p1 a_0.Library.Cells.length k1, .slice p2 a_0.Design.Instances.length k2, .slice p3 a_0.Design.Nets.length k3, .slice p4 a_0.Design.Ports.length k4, .slice p5 a_0.Wires.length k5, .slice p6 r1.length k6, .slice p27 x14.length k22, .slice p21 x11.length k17, .slice p24 x12.length k19, .slice none 0 0] 94]) rfl 23 rfl #[ff, ff, ff, ff, ff, ff, ff, ff, ff, ff, ff, ff, ff, ff, ff, ff, ff, ff, ff, ff, ff, ff, ff] (by kernel_rfl) (fun w36 hb => ?_)
    replace h := h.ext hb
    clear hb
    refine qi 0 rfl #[tt, ff, ff, ff, ff, ff, ff, ff, ff, ff, ff, ff, ff, ff, ff, ff, ff, ff, ff, ff, ff, ff, ff] (by kernel_rfl) (by kernel_rfl) (fun w' hw => v_p qc rfl w') (h.pick [3, 5] rfl) rfl ?_
    refine qi 1 rfl #[tt, tt, ff, ff, ff, ff, ff, ff, ff, ff, ff, ff, ff, ff, ff, ff, ff, ff, ff, ff, ff, ff, ff] (by kernel_rfl) (by kernel_rfl) (fun w' hw => v_p qc rfl w') (h.pick [3, 5] rfl) rfl ?_
    refine qi 2 rfl #[tt, tt, tt, ff, ff, ff, ff, ff, ff, ff, ff, ff, ff, ff, ff, ff, ff, ff, ff, ff, ff, ff, ff] (by kernel_rfl) (by kernel_rfl) (fun w' hw => v_p qc rfl w') (h.pick [3, 5] rfl) rfl ?_
    refine qi 3 rfl #[tt, tt, tt, tt, ff, ff, ff, ff, ff, ff, ff, ff, ff, ff, ff, ff, ff, ff, ff, ff, ff, ff, ff] (by kernel_rfl) (by kernel_rfl) (fun w' hw => v_p qc rfl w') (h.pick [3, 5] rfl) rfl ?_
    refine qi 4 rfl #[tt, tt, tt, tt, tt, ff, ff, ff, ff, ff, ff, ff, ff, ff, ff, ff, ff, ff, ff, ff, ff, ff, ff] (by kernel_rfl) (by kernel_rfl) (fun w' hw => qbj qc (hw.box 1 rfl) (j := 6) rfl rfl rfl) (h.pick [3, 5] rfl) rfl ?_
    refine qi 5 rfl #[tt, tt, tt, tt, tt, tt, ff, ff, ff, ff, ff, ff, ff, ff, ff, ff, ff, ff, ff, ff, ff, ff, ff] (by kernel_rfl) (by kernel_rfl) (fun w' hw => v_p qc rfl w') (h.pick [3, 5] rfl) rfl ?_
    refine qi 6 rfl #[tt, tt, tt, tt, tt, tt, tt, ff, ff, ff, ff, ff, ff, ff, ff, ff, ff, ff, ff, ff, ff, ff, ff] (by kernel_rfl) (by kernel_rfl) (fun w' hw => v_p qc rfl w') (h.pick [3, 5] rfl) rfl ?_
    obtain ⟨y8, hy8, hF⟩ := qd hF
    have he8 := qf hy8
    obtain ⟨b9, o_7, q9, cs9, hp9, hq9, -, hr13, hc13⟩ := (h.sl 3 rfl).1.at hy8
    obtain rfl := hr13
    refine qi 7 rfl #[tt, tt, tt, tt, tt, tt, tt, tt, ff, ff, ff, ff, ff, ff, ff, ff, ff, ff, ff, ff, ff, ff, ff] (by kernel_rfl) (by kernel_rfl) (fun w' hw => qeG qc hp9 hq9 ⟨he8.1, qY he8.2.1 (h.sl 3 rfl).2⟩ rfl rfl rfl rfl rfl rfl) (h.pick [3, 5] rfl) rfl ?_
    refine qi 8 rfl #[tt, tt, tt, tt, tt, tt, tt, tt, tt, ff, ff, ff, ff, ff, ff, ff, ff, ff, ff, ff, ff, ff, ff] (by kernel_rfl) (by kernel_rfl) (fun w' hw => qbj qc (qdn (w1 := w) (S1 := fun _ => False) hw 0 rfl hy8 hp9 hq9 rfl) (j := 0) rfl rfl rfl) (h.pick [3, 5] rfl) rfl ?_
    refine qi 9 rfl #[tt, tt, tt, tt, tt, tt, tt, tt, tt, tt, ff, ff, ff, ff, ff, ff, ff, ff, ff, ff, ff, ff, ff] (by kernel_rfl) (by kernel_rfl) (fun w' hw => v_p qc rfl w') (h.pick [3, 5] rfl) rfl ?_
    refine qi 10 rfl #[tt, tt, tt, tt, tt, tt, tt, tt, tt, tt, tt, ff, ff, ff, ff, ff, ff, ff, ff, ff, ff, ff, ff] (by kernel_rfl) (by kernel_rfl) (fun w' hw => v_p qc rfl w') (h.pick [3, 5] rfl) rfl ?_
    refine qi 11 rfl #[tt, tt, tt, tt, tt, tt, tt, tt, tt, tt, tt, tt, ff, ff, ff, ff, ff, ff, ff, ff, ff, ff, ff] (by kernel_rfl) (by kernel_rfl) (fun w' hw => v_p qc rfl w') (h.pick [3, 5] rfl) rfl ?_
    refine qi 12 rfl #[tt, tt, tt, tt, tt, tt, tt, tt, tt, tt, tt, tt, tt, ff, ff, ff, ff, ff, ff, ff, ff, ff, ff] (by kernel_rfl) (by kernel_rfl) (fun w' hw => v_p qc rfl w') (h.pick [3, 5] rfl) rfl ?_
    refine qi 13 rfl #[tt, tt, tt, tt, tt, tt, tt, tt, tt, tt, tt, tt, tt, tt, ff, ff, ff, ff, ff, ff, ff, ff, ff] (by kernel_rfl) (by kernel_rfl) (fun w' hw => v_p qc rfl w') (h.pick [3, 5] rfl) rfl ?_
    refine qi 14 rfl #[tt, tt, tt, tt, tt, tt, tt, tt, tt, tt, tt, tt, tt, tt, tt, ff, ff, ff, ff, ff, ff, ff, ff] (by kernel_rfl) (by kernel_rfl) (fun w' hw => v_p qc rfl w') (h.pick [3, 5] rfl) rfl ?_
    refine qi 15 rfl #[tt, tt, tt, tt, tt, tt, tt, tt, tt, tt, tt, tt, tt, tt, tt, tt, ff, ff, ff, ff, ff, ff, ff] (by kernel_rfl) (by kernel_rfl) (fun w' hw => v_p qc rfl w') (h.pick [3, 5] rfl) rfl ?_
    refine qi 16 rfl #[tt, tt, tt, tt, tt, tt, tt, tt, tt, tt, tt, tt, tt, tt, tt, tt, tt, ff, ff, ff, ff, ff, ff] (by kernel_rfl) (by kernel_rfl) (fun w' hw => v_p qc rfl w') (h.pick [3, 5] rfl) rfl ?_
    refine qi 17 rfl #[tt, tt, tt, tt, tt, tt, tt, tt, tt, tt, tt, tt, tt, tt, tt, tt, tt, tt, ff, ff, ff, ff, ff] (by kernel_rfl) (by kernel_rfl) (fun w' hw => qgF qc [0, 1, 2, 3] [.tmp 141, .tmp 145, .const (.int .i64 (2)), .tmp 146] rfl rfl rfl rfl rfl rfl rfl rfl) (h.pick [3, 5] rfl) rfl ?_
    refine qax 18 rfl #[tt, tt, tt, tt, tt, tt, tt, tt, tt, tt, tt, tt, tt, tt, tt, tt, tt, tt, tt, ff, ff, ff, ff] (by kernel_rfl) (by kernel_rfl) ?_
    refine qat qc [.tmp 147] _ ([(⟨W64 ((W64 (2 * y8)) + i6), W64 ((W64 (2 * y7)) + i6), 2, i5⟩ : qa9)] : List qa9) h rfl rfl rfl rfl rfl rfl rfl rfl rfl ⟨(qmt (⟨W64 ((W64 (2 * y8)) + i6), W64 ((W64 (2 * y7)) + i6), 2, i5⟩ : qa9)), trivial⟩ rfl ?_
    intro w37 p28 S24 h
    refine qan (fun _ => (h.pick [4, 6] rfl)) ?_
    refine qax 19 rfl #[tt, tt, tt, tt, tt, tt, tt, tt, tt, tt, tt, tt, tt, tt, tt, tt, tt, tt, tt, tt, ff, ff, ff] (by kernel_rfl) (by kernel_rfl) ?_
    obtain ⟨x15, hx7, hF⟩ := qd hF
    obtain ⟨g9, hx7⟩ := qa4 hx7
    refine qdG qc 5 h rfl (h.sl 0 rfl).1 (h.sl 0 rfl).2 rfl rfl rfl rfl rfl rfl rfl rfl rfl g9 hx7 rfl ?_
    intro w38 p29 k23 S25 h
    refine qan (fun _ => (h.pick [4, 6] rfl)) ?_
    refine qax 20 rfl #[tt, tt, tt, tt, tt, tt, tt, tt, tt, tt, tt, tt, tt, tt, tt, tt, tt, tt, tt, tt, tt, ff, ff] (by kernel_rfl) (by kernel_rfl) ?_
    refine zp1 rfl ?_
    refine qan (fun _ => (h.pick [4, 6] rfl)) ?_
    refine qi 21 rfl #[tt, tt, tt, tt, tt, tt, tt, tt, tt, tt, tt, tt, tt, tt, tt, tt, tt, tt, tt, tt, tt, tt, ff] (by kernel_rfl) (by kernel_rfl) (fun w' hw => v_p qc rfl w') (h.pick [4, 6] rfl) rfl ?_
    refine qax 22 rfl #[tt, tt, tt, tt, tt, tt, tt, tt, tt, tt, tt, tt, tt, tt, tt, tt, tt, tt, tt, tt, tt, tt, tt] (by kernel_rfl) (by kernel_rfl) ?_
    refine zs 6 h rfl ?_
    intro w39 h
    refine qan (fun hs => absurd (hs 22 (by decide)) (by decide)) ?_
    refine qdm (by kernel_rfl) ?_
    refine qd1 (qA (zp2 rfl (qb ?_)))
    replace h := h.pick [1, 2, 3, 4, 5, 6, 7, 8] rfl
    exact qx m5 [(1, _), (3, _), (7, _), (8, _), (11, _), (12, _), (13, _), (87, _), (88, _), (120, _), (121, _), (122, _), (127, _)] (Nat.lt_succ_self m5) ⟨rfl, rfl, rfl, rfl, rfl, rfl, rfl, rfl, rfl, rfl, rfl, rfl, rfl, trivial⟩ ⟨_, _, _, _, _, _, hF, rfl, h⟩
   refine qE rfl ?_
   obtain rfl := qh hF; replace hF := hK5
   exact qd1 (qA (zp2 rfl (qb (qx m4 [(1, _), (3, _), (7, _), (8, _), (11, _), (87, _), (88, _), (120, _), (121, _), (122, _)] (Nat.lt_succ_self m4) ⟨rfl, rfl, rfl, rfl, rfl, rfl, rfl, rfl, rfl, rfl, trivial⟩ ⟨_, _, _, _, _, _, hF, rfl, h⟩))))
  refine qE rfl ?_
  obtain rfl := qh hF; replace hF := hK4
  refine qd1 (qA (zp2 rfl (qb ?_)))
  replace h := h.unlrn 2 rfl
  exact qx m3 [(1, _), (3, _), (7, _), (8, _), (87, _), (88, _)] (Nat.lt_succ_self m3) ⟨rfl, rfl, rfl, rfl, rfl, rfl, trivial⟩ ⟨_, _, _, _, _, _, _, _, _, _, _, _, _, _, _, _, hF, rfl, h⟩
 refine qE rfl ?_
 obtain rfl := qh hF; replace hF := hK3
 refine zSR (zp2 rfl (qb ?_))
 obtain rfl := qh hF
 have hv1 : GoRs.Rs _ (reg A w _) (some (⟨(⟨(⟨a_0.Library.Cells⟩ : qv), (⟨a_0.Design.Instances, a_0.Design.Nets, a_0.Design.Ports⟩ : qj), a_0.Wires⟩ : ql), r1, x10, x9, x8, []⟩ : Tview)) [GoT.v (Option Tview) [.pointer (some ⟨bb2, 0, none⟩)]] := ⟨_, rfl, (hg.outR h (Rg.boxR (x := (⟨(⟨(⟨a_0.Library.Cells⟩ : qv), (⟨a_0.Design.Instances, a_0.Design.Nets, a_0.Design.Ports⟩ : qj), a_0.Wires⟩ : ql), r1, x10, x9, x8, []⟩ : Tview)) 5 h rfl (⟨[.slice p1 a_0.Library.Cells.length k1, .slice p2 a_0.Design.Instances.length k2, .slice p3 a_0.Design.Nets.length k3, .slice p4 a_0.Design.Ports.length k4, .slice p5 a_0.Wires.length k5], [.slice p6 r1.length k6, .slice p18 x10.length k15, .slice p17 x9.length k14, .slice p16 x8.length k13, .slice none 0 0], rfl, ⟨[.slice p1 a_0.Library.Cells.length k1], [.slice p2 a_0.Design.Instances.length k2, .slice p3 a_0.Design.Nets.length k3, .slice p4 a_0.Design.Ports.length k4, .slice p5 a_0.Wires.length k5], rfl, ⟨_, _, rfl, (hg.inS h s1)⟩, ⟨[.slice p2 a_0.Design.Instances.length k2, .slice p3 a_0.Design.Nets.length k3, .slice p4 a_0.Design.Ports.length k4], [.slice p5 a_0.Wires.length k5], rfl, ⟨[.slice p2 a_0.Design.Instances.length k2], [.slice p3 a_0.Design.Nets.length k3, .slice p4 a_0.Design.Ports.length k4], rfl, ⟨_, _, rfl, (hg.inS h s2)⟩, ⟨[.slice p3 a_0.Design.Nets.length k3], [.slice p4 a_0.Design.Ports.length k4], rfl, ⟨_, _, rfl, (hg.inS h s3)⟩, ⟨_, _, rfl, (hg.inS h s4)⟩⟩⟩, ⟨_, _, rfl, (hg.inS h s5)⟩⟩⟩, ⟨[.slice p6 r1.length k6], [.slice p18 x10.length k15, .slice p17 x9.length k14, .slice p16 x8.length k13, .slice none 0 0], rfl, (Rg.ownR 6 h rfl), ⟨[.slice p18 x10.length k15], [.slice p17 x9.length k14, .slice p16 x8.length k13, .slice none 0 0], rfl, (Rg.ownR 4 h rfl), ⟨[.slice p17 x9.length k14], [.slice p16 x8.length k13, .slice none 0 0], rfl, (Rg.ownR 1 h rfl), ⟨[.slice p16 x8.length k13], [.slice none 0 0], rfl, (Rg.ownR 0 h rfl), ⟨_, _, rfl, qos⟩⟩⟩⟩⟩⟩)))⟩
 exact qnI qc (ρ := (Option Tview)) (r := (some (⟨(⟨(⟨a_0.Library.Cells⟩ : qv), (⟨a_0.Design.Instances, a_0.Design.Nets, a_0.Design.Ports⟩ : qj), a_0.Wires⟩ : ql), r1, x10, x9, x8, []⟩ : Tview))) [GoT.v (Option Tview) [.pointer (some ⟨bb2, 0, none⟩)]] h ⟨rfl, trivial⟩ hv1

def qbJ (_ : Nat) (v : (Option Tview)) (p : Tplace) : Option Bool :=
 bif decide (p.instance_ ≥ 0) then
  (v).bind fun y1 =>
  (idx y1.Block.Design.Instances p.instance_).bind fun y2 =>
  (idx y1.Block.Library.Cells y2.Cell).bind fun y3 =>
  (idx y3.Pins p.pin).bind fun y4 =>
  some y4.Clock
 else
  some false

theorem qeC {n : Nat} {w : World} {v : (Option Tview)} {p : Tplace} {cs1 : List Value} (ha1 : GoT.R w (old w) v cs1) {cs2 : List Value} (ha2 : GoT.R w (old w) p cs2) {r : Bool} (hF : qbJ n v p = some r) : RetV Tryz.prog 101 [GoT.v (Option Tview) cs1, GoT.v Tplace cs2] w r := by
 obtain ⟨p1, rfl, s1⟩ := qiq ha1
 obtain rfl := qcj ha2
 refine qe Tryz.func101 rfl (m := 35) rfl rfl (fun h => ?_)
 rw [qbJ] at hF
 refine zSR (qN h rfl rfl ?_)
 intro w1 bb1 h
 refine zp1 rfl (zNS ?_)
 refine qcA rfl (by kernel_rfl) ?_
 refine zd1 rfl ?_
 refine zdl 0 0 h rfl ?_
 refine zd2 rfl ?_
 by_cases hc1 : (decide (p.instance_ ≥ 0)) = true
 ·replace hF := bifT hc1 hF
  refine qcC hc1 (t := 8) rfl (qg rfl (zd1 rfl (qg rfl ?_)))
  obtain ⟨y1, hy1, hF⟩ := qd hF
  obtain ⟨b1, o_1, cs3, rfl, -, hr1, hc2⟩ := PtR.get s1 hy1
  obtain ⟨p2, k1, p3, k2, p4, k3, p5, k4, p6, k5, p7, k6, p8, k7, p9, k8, p10, k9, p11, k10, rfl, s2, s3, s4, s5, s6, s7, s8, s9, s10, s11⟩ := qhX hr1
  refine zd1 rfl (qg rfl (zd1 rfl (qg rfl (zd1 rfl (qg rfl (zd1 rfl (qg rfl ?_)))))))
  refine zdc 0 (hc2.below h.below) rfl ?_
  refine qg rfl (zd1 rfl (qg rfl (zd1 rfl (qg rfl (zd1 rfl (qg rfl (zd1 rfl (qg rfl (zd1 rfl (qg rfl ?_))))))))))
  refine zdc 1 (hc2.below h.below) rfl ?_
  refine qg rfl (zd1 rfl (qg rfl ?_))
  refine zdl 0 0 h rfl ?_
  refine qg rfl ?_
  obtain ⟨y2, hy2, hF⟩ := qd hF
  have he1 := qf hy2
  obtain ⟨b2, o_2, q1, cs4, hp1, hq1, -, hr2, hc3⟩ := s3.at hy2
  obtain ⟨p12, k11, rfl, s12⟩ := qV hr2
  refine zdxe hp1 hq1 he1 rfl ?_
  refine qg rfl (zd1 rfl (qg rfl ?_))
  refine zdc 1 (hc3.below h.below) rfl ?_
  refine qg rfl ?_
  obtain ⟨y3, hy3, hF⟩ := qd hF
  have he2 := qf hy3
  obtain ⟨b3, o_3, q2, cs5, hp2, hq2, -, hr3, hc4⟩ := s2.at hy3
  obtain ⟨p13, k12, p14, k13, p15, k14, rfl, s13, s14, s15⟩ := qU hr3
  refine zdxe hp2 hq2 he2 rfl ?_
  refine qg rfl (zd1 rfl (qg rfl ?_))
  refine zdc 2 (hc4.below h.below) rfl ?_
  refine qg rfl (zd1 rfl (qg rfl ?_))
  refine zdl 0 1 h rfl ?_
  refine qg rfl ?_
  obtain ⟨y4, hy4, hF⟩ := qd hF
  have he3 := qf hy4
  obtain ⟨b4, o_4, q3, cs6, hp3, hq3, -, hr4, hc5⟩ := s13.at hy4
  obtain rfl := qbg hr4
  refine zdxe hp3 hq3 he3 rfl ?_
  refine qg rfl (zd1 rfl (qg rfl ?_))
  refine zdc 3 (hc5.below h.below) rfl ?_
  refine zd2 rfl ?_
  refine qbb (fun w2 hb => ?_)
  replace h := h.ext hb
  clear hb
  exact qz qc h hF ⟨rfl, trivial⟩
 replace hc1 := zb hc1
 replace hF := bifF hc1 hF
 refine qcy hc1 (t := 8) rfl (qk rfl rfl rfl (qk rfl rfl rfl (qk rfl rfl rfl (qk rfl rfl rfl (qk rfl rfl rfl (qk rfl rfl rfl (qk rfl rfl rfl (qk rfl rfl rfl (qk rfl rfl rfl (qk rfl rfl rfl (qk rfl rfl rfl ?_)))))))))))
 refine qk rfl rfl rfl (qk rfl rfl rfl (qk rfl rfl rfl (qk rfl rfl rfl (qk rfl rfl rfl (qk rfl rfl rfl (qk rfl rfl rfl (qk rfl rfl rfl (qk rfl rfl rfl (qk rfl rfl rfl (qk rfl rfl rfl (qk rfl rfl rfl ?_)))))))))))
 refine qk rfl rfl rfl (qk rfl rfl rfl (zd2 rfl ?_))
 refine qbb (fun w3 hb => ?_)
 replace h := h.ext hb
 clear hb
 exact qz qc h hF ⟨rfl, trivial⟩

def qej (_ : Nat) (b : ql) (a_instance : Int) : Option qD :=
 (idx b.Design.Instances a_instance).bind fun y1 =>
 (idx b.Library.Cells y1.Cell).bind fun y2 =>
 some y2

theorem qhl {n : Nat} {w : World} {A : Nat → Prop} (hA : ∀ b, A b → old w b) {b : ql} {a_instance : Int} {cs1 : List Value} (ha1 : GoT.R w A b cs1) {r : qD} (hF : qej n b a_instance = some r) : RetG Tryz.prog 102 [GoT.v ql cs1, .int .i64 a_instance] w A r := by
 obtain ⟨p1, k1, p2, k2, p3, k3, p4, k4, p5, k5, rfl, s1, s2, s3, s4, s5⟩ := qag ha1
 have hg := Rg.start hA
 refine qjc Tryz.func102 rfl (m := 17) rfl rfl (fun h => ?_)
 rw [qej] at hF
 refine zSR (qN h rfl rfl ?_)
 intro w1 bb1 h
 refine qW qc h rfl rfl rfl ?_
 intro w2 bb2 h
 refine zNS ?_
 refine qe5 [] (fun w' => SH w w' [Ch.box bb1 [.slice p1 b.Library.Cells.length k1, .slice p2 b.Design.Instances.length k2, .slice p3 b.Design.Nets.length k3, .slice p4 b.Design.Ports.length k4, .slice p5 b.Wires.length k5] 48]) rfl 13 rfl #[ff, ff, ff, ff, ff, ff, ff, ff, ff, ff, ff, ff, ff] (by kernel_rfl) (fun w3 hb => ?_)
 replace h := h.ext hb
 clear hb
 refine qi 0 rfl #[tt, ff, ff, ff, ff, ff, ff, ff, ff, ff, ff, ff, ff] (by kernel_rfl) (by kernel_rfl) (fun w' hw => v_p qc rfl w') (h.pick [1] rfl) rfl ?_
 refine qi 1 rfl #[tt, tt, ff, ff, ff, ff, ff, ff, ff, ff, ff, ff, ff] (by kernel_rfl) (by kernel_rfl) (fun w' hw => v_p qc rfl w') (h.pick [1] rfl) rfl ?_
 refine qi 2 rfl #[tt, tt, tt, ff, ff, ff, ff, ff, ff, ff, ff, ff, ff] (by kernel_rfl) (by kernel_rfl) (fun w' hw => qbj qc (hw.box 0 rfl) (j := 0) rfl rfl rfl) (h.pick [1] rfl) rfl ?_
 refine qi 3 rfl #[tt, tt, tt, tt, ff, ff, ff, ff, ff, ff, ff, ff, ff] (by kernel_rfl) (by kernel_rfl) (fun w' hw => v_p qc rfl w') (h.pick [1] rfl) rfl ?_
 refine qi 4 rfl #[tt, tt, tt, tt, tt, ff, ff, ff, ff, ff, ff, ff, ff] (by kernel_rfl) (by kernel_rfl) (fun w' hw => v_p qc rfl w') (h.pick [1] rfl) rfl ?_
 refine qi 5 rfl #[tt, tt, tt, tt, tt, tt, ff, ff, ff, ff, ff, ff, ff] (by kernel_rfl) (by kernel_rfl) (fun w' hw => qbj qc (hw.box 0 rfl) (j := 1) rfl rfl rfl) (h.pick [1] rfl) rfl ?_
 refine qi 6 rfl #[tt, tt, tt, tt, tt, tt, tt, ff, ff, ff, ff, ff, ff] (by kernel_rfl) (by kernel_rfl) (fun w' hw => v_p qc rfl w') (h.pick [1] rfl) rfl ?_
 obtain ⟨y1, hy1, hF⟩ := qd hF
 have he1 := qf hy1
 obtain ⟨b1, o_1, q1, cs2, hp1, hq1, -, hr1, hc1⟩ := s2.at hy1
 obtain ⟨p6, k6, rfl, s6⟩ := qV hr1
 refine qi 7 rfl #[tt, tt, tt, tt, tt, tt, tt, tt, ff, ff, ff, ff, ff] (by kernel_rfl) (by kernel_rfl) (fun w' hw => qeG qc hp1 hq1 ⟨he1.1, he1.2.1⟩ rfl rfl rfl rfl rfl rfl) (h.pick [1] rfl) rfl ?_
 refine qi 8 rfl #[tt, tt, tt, tt, tt, tt, tt, tt, tt, ff, ff, ff, ff] (by kernel_rfl) (by kernel_rfl) (fun w' hw => v_p qc rfl w') (h.pick [1] rfl) rfl ?_
 refine qi 9 rfl #[tt, tt, tt, tt, tt, tt, tt, tt, tt, tt, ff, ff, ff] (by kernel_rfl) (by kernel_rfl) (fun w' hw => qbj qc (hc1.below hw.below) (j := 1) rfl rfl rfl) (h.pick [1] rfl) rfl ?_
 obtain ⟨y2, hy2, hF⟩ := qd hF
 have he2 := qf hy2
 obtain ⟨b2, o_2, q2, cs3, hp2, hq2, -, hr2, hc2⟩ := s1.at hy2
 obtain ⟨p7, k7, p8, k8, p9, k9, rfl, s7, s8, s9⟩ := qU hr2
 refine qi 10 rfl #[tt, tt, tt, tt, tt, tt, tt, tt, tt, tt, tt, ff, ff] (by kernel_rfl) (by kernel_rfl) (fun w' hw => qeG qc hp2 hq2 ⟨he2.1, he2.2.1⟩ rfl rfl rfl rfl rfl rfl) (h.pick [1] rfl) rfl ?_
 refine qi 11 rfl #[tt, tt, tt, tt, tt, tt, tt, tt, tt, tt, tt, tt, ff] (by kernel_rfl) (by kernel_rfl) (fun w' hw => qbj qc (hc2.below hw.below) (j := 0) rfl rfl rfl) (h.pick [1] rfl) rfl ?_
 refine qax 12 rfl #[tt, tt, tt, tt, tt, tt, tt, tt, tt, tt, tt, tt, tt] (by kernel_rfl) (by kernel_rfl) ?_
 refine zs 0 h rfl ?_
 intro w4 h
 replace h : SH _ _ [Ch.box bb2 [.string y2.Name, .int .i64 y2.Kind, .slice p7 y2.Pins.length k7, .slice p8 y2.Arcs.length k8, .slice p9 y2.Truth.length k9, .int .i64 y2.Leak, .int .i64 y2.Energy] 155, Ch.box bb1 [.slice p1 b.Library.Cells.length k1, .slice p2 b.Design.Instances.length k2, .slice p3 b.Design.Nets.length k3, .slice p4 b.Design.Ports.length k4, .slice p5 b.Wires.length k5] 48] := h
 refine qan (fun _ => (h.pick [1] rfl)) ?_
 refine qdm (by kernel_rfl) ?_
 obtain rfl := qh hF
 have hv1 : GoRs.Rs _ (reg A w _) y2 [GoT.v qD [.string y2.Name, .int .i64 y2.Kind, .slice p7 y2.Pins.length k7, .slice p8 y2.Arcs.length k8, .slice p9 y2.Truth.length k9, .int .i64 y2.Leak, .int .i64 y2.Energy]] := ⟨_, rfl, (hg.outR h (qgi y2 (hg.inS h s7) (hg.inS h s8) (hg.inS h s9)))⟩
 exact qnI qc (ρ := qD) (r := y2) [GoT.v qD [.string y2.Name, .int .i64 y2.Kind, .slice p7 y2.Pins.length k7, .slice p8 y2.Arcs.length k8, .slice p9 y2.Truth.length k9, .int .i64 y2.Leak, .int .i64 y2.Energy]] h ⟨⟨_, _, _, rfl, rfl, h.box 0 rfl, rfl⟩, trivial⟩ hv1

def qgw (_ : Nat) (a : qZ) : Option Bool :=
 bif (a.Kind == 1) then
  some true
 else
  bif (a.Kind == 2) then
   some true
  else
   some (a.Kind == 3)

theorem qkg {n : Nat} {w : World} {a : qZ} {cs1 : List Value} (ha1 : GoT.R w (old w) a cs1) {r : Bool} (hF : qgw n a = some r) : RetV Tryz.prog 105 [GoT.v qZ cs1] w r := by
 obtain ⟨p1, k1, p2, k2, rfl, s1, s2⟩ := qav ha1
 refine qe Tryz.func105 rfl (m := 16) rfl rfl (fun h => ?_)
 rw [qgw] at hF
 refine zSR (qN h rfl rfl ?_)
 intro w1 bb1 h
 refine zp1 rfl (zNSR (zp1 rfl (zl 0 0 h rfl (zp2 rfl ?_))))
 by_cases hc1 : (a.Kind == 1) = true
 ·replace hF := bifT hc1 hF
  refine qB hc1 (t := 6) rfl (zn3 rfl (zp2 rfl (zn3 rfl (zp2 rfl (qb ?_)))))
  exact qz qc h hF ⟨rfl, trivial⟩
 replace hc1 := zb hc1
 replace hF := bifF hc1 hF
 refine qC hc1 (t := 6) rfl (qa rfl (zp1 rfl (qa rfl (zl 0 0 h rfl (qa rfl (zp3 rfl ?_))))))
 by_cases hc2 : (a.Kind == 2) = true
 ·replace hF := bifT hc2 hF
  exact qB hc2 (t := 11) rfl (zn3 rfl (zp2 rfl (qb (qz qc h hF ⟨rfl, trivial⟩))))
 replace hc2 := zb hc2
 replace hF := bifF hc2 hF
 exact qC hc2 (t := 11) rfl (qa rfl (zp1 rfl (qa rfl (zl 0 0 h rfl (qa rfl (zp3 rfl (qb (qz qc h hF ⟨rfl, trivial⟩))))))))

def qcK (n : Nat) (a : qZ) (v0 : Tplace) : Option Bool :=
 (qgw n a).bind fun r1 =>
 bif r1 then
  some (a.From == v0.pin)
 else
  some false

theorem qh1 {n : Nat} {w : World} {a : qZ} {v0 : Tplace} {cs1 : List Value} (ha1 : GoT.R w (old w) a cs1) {p3 : Option Addr} (ha2 : GoT.R w (old w) (some v0) [.pointer p3]) {r : Bool} (hF : qcK n a v0 = some r) : RetV Tryz.prog 104 [GoT.v qZ cs1, .pointer p3] w r := by
 obtain ⟨p1, k1, p2, k2, rfl, s1, s2⟩ := qav ha1
 obtain ⟨b1, o_1, cs2, rfl, -, hr1, hc1⟩ := PtR.get ha2 rfl
 obtain rfl := qcj hr1
 refine qe Tryz.func104 rfl (m := 13) rfl rfl (fun h => ?_)
 rw [qcK] at hF
 refine zSR (qN h rfl rfl ?_)
 intro w1 bb1 h
 refine zp1 rfl (zNSR (zl 0 0 h rfl ?_))
 obtain ⟨r1, hr2, hF⟩ := qd hF
 refine qp r1 h call105 (qkg (h.old ha1) hr2) rfl rfl rfl rfl ?_
 intro w2 h
 refine zp1 rfl ?_
 by_cases hc2 : r1 = true
 ·replace hF := bifT hc2 hF
  refine qB hc2 (t := 6) rfl (qa rfl (zp1 rfl (qa rfl (zl 0 1 h rfl (qa rfl (zp1 rfl (qa rfl (zc 1 (hc1.below h.below) rfl (qa rfl (zp2 rfl ?_))))))))))
  exact zp1 rfl (qb (qz qc h hF ⟨rfl, trivial⟩))
 replace hc2 := zb hc2
 replace hF := bifF hc2 hF
 exact qC hc2 (t := 6) rfl (zn5 rfl (zp2 rfl (qb (qz qc h hF ⟨rfl, trivial⟩))))

def qH (s : (List qZ)) (f_0 : Tplace) : Nat → Int → Option (Flow Int Int)
 | 0, _ => none
 | n + 1, i1 =>
  bif decide (i1 < (s.length : Int)) then
   (idx s i1).bind fun y1 =>
   (qcK n y1 f_0).bind fun r1 =>
   bif r1 then
    some (.ret i1)
   else
    qH s f_0 n (W64 (i1 + 1))
  else
   some (.nxt i1)

def qaw (n : Nat) (s : (List qZ)) (f_0 : Tplace) : Option Int :=
 (qH s f_0 n 0).bind fun o => match o with
 | .ret r => some r
 | .nxt _ =>
  some (-1)

theorem qdL {n : Nat} {w : World} {s : (List qZ)} {f_0 : Tplace} {cs1 : List Value} (ha1 : GoT.R w (old w) s cs1) {p2 : Option Addr} (ha2 : GoT.R w (old w) (some f_0) [.pointer p2]) {r : Int} (hF : qaw n s f_0 = some r) : RetV Tryz.prog 141 [GoT.v (List qZ) cs1, .func (.func 104) #[] #[.pointer p2]] w r := by
 obtain ⟨p1, k1, rfl, s1⟩ := ha1
 obtain ⟨b1, o_1, cs2, rfl, -, hr1, hc1⟩ := PtR.get ha2 rfl
 obtain rfl := qcj hr1
 refine qe Tryz.func141 rfl (m := 19) rfl rfl (fun h => ?_)
 rw [qaw] at hF
 refine zSR (zp1 rfl (zNSSR (zp3 rfl (qb ?_))))
 obtain ⟨o1, hF, hK1⟩ := qd hF
 refine qw (qP [(0, _), (1, _), (7, _), (8, _)] ⟨rfl, rfl, rfl, rfl, trivial⟩ ?_)
 refine qF (fun m e w' => ∃ (i1 : Int), qH s f_0 m i1 = some o1 ∧ e = [(0, .slice p1 s.length k1), (1, .func (.func 104) #[] #[.pointer (some ⟨b1, o_1, none⟩)]), (7, .int .i64 (s.length : Int)), (8, .int .i64 i1)] ∧ SH w w' []) n ⟨_, hF, rfl, h⟩ ?_
 rintro m1 e1 w1 ⟨i1, hF, rfl, h⟩
 rcases m1 with _ | m1
 ·rw [qH] at hF
  cases hF
 rw [qH] at hF
 refine zSR (zp1 rfl (zNS ?_))
 refine qu rfl hF ?_ ?_ <;> intro hF
 ·refine zKSBSR (zp2 rfl (zNSR (zp2 rfl ?_)))
  refine zp1 rfl ?_
  obtain ⟨y1, hy1, hF⟩ := qd hF
  have he1 := qf hy1
  obtain ⟨b2, o_2, q1, cs3, hp1, hq1, -, hr2, hc3⟩ := s1.at hy1
  obtain ⟨p3, k2, p4, k3, rfl, s2, s3⟩ := qav hr2
  refine zxe hp1 hq1 he1 rfl (zc 0 (hc3.below h.below) rfl ?_)
  obtain ⟨r1, hr3, hF⟩ := qd hF
  refine qp r1 h call104 (qh1 (qfl y1 (h.oldS s2) (h.oldS s3)) (h.old ha2) hr3) rfl rfl rfl rfl ?_
  intro w2 h
  refine qb ?_
  refine qu rfl hF ?_ ?_ <;> intro hF
  ·refine zSR (zp2 rfl (qb ?_))
   obtain rfl := qh hF; replace hF := hK1
   exact qaH qc h hF ⟨rfl, trivial⟩
  exact zKER (zp2 rfl (qb (qx m1 [(0, _), (1, _), (7, _), (8, _)] (Nat.lt_succ_self m1) ⟨rfl, rfl, rfl, rfl, trivial⟩ ⟨_, hF, rfl, h⟩)))
 refine qE rfl ?_
 obtain rfl := qh hF; replace hF := hK1
 exact zSR (zp1 rfl (qb (qaH qc h hF ⟨rfl, trivial⟩)))

def qX (n : Nat) (s : (List qZ)) (f_0 : Tplace) : Option Bool :=
 (qaw n s f_0).bind fun r1 =>
 some (decide (r1 ≥ 0))

theorem qdw {n : Nat} {w : World} {s : (List qZ)} {f_0 : Tplace} {cs1 : List Value} (ha1 : GoT.R w (old w) s cs1) {p2 : Option Addr} (ha2 : GoT.R w (old w) (some f_0) [.pointer p2]) {r : Bool} (hF : qX n s f_0 = some r) : RetV Tryz.prog 103 [GoT.v (List qZ) cs1, .func (.func 104) #[] #[.pointer p2]] w r := by
 obtain ⟨p1, k1, rfl, s1⟩ := ha1
 obtain ⟨b1, o_1, cs2, rfl, -, hr1, hc1⟩ := PtR.get ha2 rfl
 obtain rfl := qcj hr1
 refine qe Tryz.func103 rfl (m := 9) rfl rfl (fun h => ?_)
 rw [qX] at hF
 refine zSR (zp1 rfl (zNSR (zp2 rfl ?_)))
 obtain ⟨r1, hr2, hF⟩ := qd hF
 refine qT r1 h call141 (qdL ⟨_, _, rfl, (h.oldS s1)⟩ (h.old ha2) hr2) rfl rfl rfl rfl ?_
 intro w1 h
 exact zp2 rfl (qb (qz qc h hF ⟨rfl, trivial⟩))

end Go.Fw


namespace Go.Fw
open Go Go.Proofs
open Go.RowKit (Below)
set_option maxRecDepth 100000
def qad (a_0 : (Option Tview)) (y1 : Tview) (y2 : Tplace) : Nat → (List Int) → Int → Option ((List Int) × Int)
 | 0, _, _ => none
 | n + 1, x1, i1 =>
  bif decide (i1 < (y1.places.length : Int)) then
   (idx y1.places i1).bind fun y3 =>
   bif (y3.net == y2.net) then
    bif (!y3.drives) then
     (qbJ n a_0 y3).bind fun r1 =>
     bif (!r1) then
      (appS x1 ([i1] : List Int)).bind fun x2 =>
      qad a_0 y1 y2 n x2 (W64 (i1 + 1))
     else
      qad a_0 y1 y2 n x1 (W64 (i1 + 1))
    else
     qad a_0 y1 y2 n x1 (W64 (i1 + 1))
   else
    qad a_0 y1 y2 n x1 (W64 (i1 + 1))
  else
   some (x1, i1)

def qbH (n : Nat) (a_0 : (Option Tview)) (a_1 : Int) : Option (List Int) :=
 (a_0).bind fun y1 =>
 (idx y1.places a_1).bind fun y2 =>
 bif y2.drives then
  (qad a_0 y1 y2 n ([] : List Int) 0).bind fun o => match o with
  | (x1, _) =>
   some x1
 else
  bif decide (y2.instance_ < 0) then
   some []
  else
   (qej n (⟨(⟨y1.Block.Library.Cells⟩ : qv), (⟨y1.Block.Design.Instances, y1.Block.Design.Nets, y1.Block.Design.Ports⟩ : qj), y1.Block.Wires⟩ : ql) y2.instance_).bind fun r2 =>
   (qX n r2.Arcs y2).bind fun r3 =>
   bif r3 then
    (qbT n r2).bind fun r4 =>
    some ([W64 ((W64 (a_1 - y2.pin)) + r4)] : List Int)
   else
    some []

theorem qeF {n : Nat} {w : World} {a_0 : (Option Tview)} {a_1 : Int} {cs1 : List Value} (ha1 : GoT.R w (old w) a_0 cs1) {r : (List Int)} (hF : qbH n a_0 a_1 = some r) : RetV Tryz.prog 53 [GoT.v (Option Tview) cs1, .int .i64 a_1] w r := by
 obtain ⟨p1, rfl, s1⟩ := qiq ha1
 refine qe Tryz.func53 rfl (m := 73) rfl rfl (fun h => ?_)
 rw [qbH] at hF
 refine zSR (zp1 rfl (zNSR (zp1 rfl ?_)))
 obtain ⟨y1, hy1, hF⟩ := qd hF
 obtain ⟨b1, o_1, cs2, rfl, -, hr1, hc1⟩ := PtR.get s1 hy1
 obtain ⟨p2, k1, p3, k2, p4, k3, p5, k4, p6, k5, p7, k6, p8, k7, p9, k8, p10, k9, p11, k10, rfl, s2, s3, s4, s5, s6, s7, s8, s9, s10, s11⟩ := qhX hr1
 refine zp2 rfl (zc 5 (hc1.below h.below) rfl (zp1 rfl ?_))
 obtain ⟨y2, hy2, hF⟩ := qd hF
 have he1 := qf hy2
 obtain ⟨b2, o_2, q1, cs3, hp1, hq1, -, hr2, hc2⟩ := s7.at hy2
 obtain rfl := qcj hr2
 refine zxe hp1 hq1 he1 rfl (zc 0 (hc2.below h.below) rfl (qW qc h rfl rfl rfl ?_))
 intro w1 bb1 h
 refine zs 0 h rfl ?_
 intro w2 h
 refine zNSR (zp1 rfl (zNSSR (zp1 rfl (zl 0 3 h rfl (qb ?_)))))
 refine qu rfl hF ?_ ?_ <;> intro hF
 ·refine zSSR (zp3 rfl (zc 5 (hc1.below h.below) rfl (zp2 rfl (qb ?_))))
  replace h := h.nil (α := Int)
  obtain ⟨o1, hF, hK1⟩ := qd hF
  refine qw (qP [(0, _), (5, _), (6, _), (22, _), (23, _), (24, _)] ⟨rfl, rfl, rfl, rfl, rfl, rfl, trivial⟩ ?_)
  refine qF (fun m e w' => ∃ (S1 : Nat → Prop) (p12 : Option Addr) (ln1 : Nat) (k11 : Nat) (x1 : (List Int)) (i1 : Int), qad a_0 y1 y2 m x1 i1 = some o1 ∧ e = [(0, .pointer (some ⟨b1, o_1, none⟩)), (5, .pointer (some ⟨bb1, 0, none⟩)), (6, .slice p12 ln1 k11), (22, .slice p7 y1.places.length k6), (23, .int .i64 (y1.places.length : Int)), (24, .int .i64 i1)] ∧ SH w w' [Ch.own S1 (x1 : List Int) [.slice p12 ln1 k11], Ch.box bb1 [.int .i64 y2.instance_, .int .i64 y2.pin, .int .i64 y2.net, .bool y2.drives] 97]) n ⟨_, _, _, _, _, _, hF, rfl, h⟩ ?_
  rintro m1 e1 w3 ⟨S1, p12, ln1, k11, x1, i1, hF, rfl, h⟩
  obtain rfl := (h.sl 0 rfl).2
  rcases m1 with _ | m1
  ·rw [qad] at hF
   cases hF
  rw [qad] at hF
  refine zSR (zp1 rfl (zNS ?_))
  refine qu rfl hF ?_ ?_ <;> intro hF
  ·refine zKSBSR (zp1 rfl ?_)
   obtain ⟨y3, hy3, hF⟩ := qd hF
   have he2 := qf hy3
   obtain ⟨b3, o_3, q2, cs4, hp2, hq2, -, hr3, hc5⟩ := s7.at hy3
   obtain rfl := qcj hr3
   refine zxe hp2 hq2 he2 rfl (zc 0 (hc5.below h.below) rfl (qW qc h rfl rfl rfl ?_))
   intro w4 bb2 h
   refine zp1 rfl (zs 0 h rfl ?_)
   intro w5 h
   refine zNSR (zp1 rfl (zl 0 2 h rfl (zp1 rfl (zl 2 2 h rfl (zp2 rfl ?_)))))
   by_cases hc6 : (y3.net == y2.net) = true
   ·replace hF := bifT hc6 hF
    refine qB hc6 (t := 34) rfl (qa rfl (zp1 rfl (qa rfl (zl 0 3 h rfl (qa rfl (zp3 rfl ?_))))))
    by_cases hc7 : (!y3.drives) = true
    ·replace hF := bifT hc7 hF
     refine qB hc7 (t := 39) rfl (qa rfl (zp1 rfl (qa rfl (zl 0 0 h rfl (qa rfl ?_)))))
     obtain ⟨r1, hr4, hF⟩ := qd hF
     refine qp r1 h call101 (qeC (h.old s1) (qga y3) hr4) rfl rfl rfl rfl ?_
     intro w6 h
     refine qa rfl (zp2 rfl (qb ?_))
     refine qu rfl hF ?_ ?_ <;> intro hF
     ·refine qA (zp2 rfl (qat qc [.tmp 46] _ ([i1] : List Int) h rfl rfl rfl rfl rfl rfl rfl rfl rfl ⟨rfl, trivial⟩ rfl ?_))
      intro w7 p13 S2 h
      obtain ⟨x2, hx1, hF⟩ := qd hF
      obtain ⟨g1, hx1⟩ := qa4 hx1
      refine qdG qc 2 h rfl (h.sl 0 rfl).1 (h.sl 0 rfl).2 rfl rfl rfl rfl rfl rfl rfl rfl rfl g1 hx1 rfl ?_
      intro w8 p14 k12 S3 h
      refine zp1 rfl (zNER (zp2 rfl (qb ?_)))
      replace h := h.pick [2, 3] rfl
      exact qx m1 [(0, _), (5, _), (6, _), (22, _), (23, _), (24, _)] (Nat.lt_succ_self m1) ⟨rfl, rfl, rfl, rfl, rfl, rfl, trivial⟩ ⟨_, _, _, _, _, _, hF, rfl, h⟩
     refine zKER (zp2 rfl (qb ?_))
     replace h := h.pick [1, 2] rfl
     exact qx m1 [(0, _), (5, _), (6, _), (22, _), (23, _), (24, _)] (Nat.lt_succ_self m1) ⟨rfl, rfl, rfl, rfl, rfl, rfl, trivial⟩ ⟨_, _, _, _, _, _, hF, rfl, h⟩
    replace hc7 := zb hc7
    replace hF := bifF hc7 hF
    refine qC hc7 (t := 39) rfl (zn4 rfl (zp1 rfl (qb (qdY rfl rfl (zKER (zp1 rfl ?_))))))
    refine zp1 rfl (qb ?_)
    replace h := h.pick [1, 2] rfl
    exact qx m1 [(0, _), (5, _), (6, _), (22, _), (23, _), (24, _)] (Nat.lt_succ_self m1) ⟨rfl, rfl, rfl, rfl, rfl, rfl, trivial⟩ ⟨_, _, _, _, _, _, hF, rfl, h⟩
   replace hc6 := zb hc6
   replace hF := bifF hc6 hF
   refine qC hc6 (t := 34) rfl (zn3 rfl (zp2 rfl (zn4 rfl (zp1 rfl (qb ?_)))))
   refine qdY rfl rfl (zKER (zp2 rfl (qb ?_)))
   replace h := h.pick [1, 2] rfl
   exact qx m1 [(0, _), (5, _), (6, _), (22, _), (23, _), (24, _)] (Nat.lt_succ_self m1) ⟨rfl, rfl, rfl, rfl, rfl, rfl, trivial⟩ ⟨_, _, _, _, _, _, hF, rfl, h⟩
  refine qE rfl ?_
  obtain rfl := qh hF; replace hF := hK1
  refine zSR (zp2 rfl (qb ?_))
  obtain rfl := qh hF
  exact qae qc (ρ := (List Int)) [GoT.v (List Int) [.slice p12 x1.length k11]] h ⟨rfl, trivial⟩ (PV.done h (qaf (qaC 0 h rfl)))
 refine zKSSR (zp1 rfl (zl 0 0 h rfl (zp1 rfl (qb ?_))))
 refine qu rfl hF ?_ ?_ <;> intro hF
 ·refine zSR (zp1 rfl (qb ?_))
  obtain rfl := qh hF
  exact qae qc (ρ := (List Int)) [GoT.v (List Int) [.slice none 0 0]] h ⟨rfl, trivial⟩ (PV.done h (qaf qlF))
 refine zKS ?_
 refine qe5 [] (fun w' => SH w w' [Ch.box bb1 [.int .i64 y2.instance_, .int .i64 y2.pin, .int .i64 y2.net, .bool y2.drives] 97]) rfl 9 rfl #[ff, ff, ff, ff, ff, ff, ff, ff, ff] (by kernel_rfl) (fun w9 hb => ?_)
 replace h := h.ext hb
 clear hb
 refine qi 0 rfl #[tt, ff, ff, ff, ff, ff, ff, ff, ff] (by kernel_rfl) (by kernel_rfl) (fun w' hw => v_p qc rfl w') (h.pick [0] rfl) rfl ?_
 refine qi 1 rfl #[tt, tt, ff, ff, ff, ff, ff, ff, ff] (by kernel_rfl) (by kernel_rfl) (fun w' hw => v_p qc rfl w') (h.pick [0] rfl) rfl ?_
 refine qi 2 rfl #[tt, tt, tt, ff, ff, ff, ff, ff, ff] (by kernel_rfl) (by kernel_rfl) (fun w' hw => v_p qc rfl w') (h.pick [0] rfl) rfl ?_
 refine qi 3 rfl #[tt, tt, tt, tt, ff, ff, ff, ff, ff] (by kernel_rfl) (by kernel_rfl) (fun w' hw => qbj qc (hc1.below hw.below) (j := 0) rfl rfl rfl) (h.pick [0] rfl) rfl ?_
 refine qi 4 rfl #[tt, tt, tt, tt, tt, ff, ff, ff, ff] (by kernel_rfl) (by kernel_rfl) (fun w' hw => v_p qc rfl w') (h.pick [0] rfl) rfl ?_
 refine qi 5 rfl #[tt, tt, tt, tt, tt, tt, ff, ff, ff] (by kernel_rfl) (by kernel_rfl) (fun w' hw => qbj qc (hw.box 0 rfl) (j := 0) rfl rfl rfl) (h.pick [0] rfl) rfl ?_
 obtain ⟨r2, hr5, hF⟩ := qd hF
 refine qox (fun e w' => ∃ (bb9 : Nat) (p33 : Option Addr) (k31 : Nat) (p34 : Option Addr) (k32 : Nat) (p35 : Option Addr) (k33 : Nat) (S10 : Nat → Prop), e = [(1, .int .i64 a_1), (5, .pointer (some ⟨bb1, 0, none⟩)), (9, .pointer (some ⟨bb9, 0, none⟩))] ∧ SH w w' [Ch.box bb9 [.string r2.Name, .int .i64 r2.Kind, .slice p33 r2.Pins.length k31, .slice p34 r2.Arcs.length k32, .slice p35 r2.Truth.length k33, .int .i64 r2.Leak, .int .i64 r2.Energy] 155, Ch.grp (old w) S10 [fct (r2 : qD) [.string r2.Name, .int .i64 r2.Kind, .slice p33 r2.Pins.length k31, .slice p34 r2.Arcs.length k32, .slice p35 r2.Truth.length k33, .int .i64 r2.Leak, .int .i64 r2.Energy]], Ch.box bb1 [.int .i64 y2.instance_, .int .i64 y2.pin, .int .i64 y2.net, .bool y2.drives] 97]) 0 #[tt, tt, tt, tt, tt, tt, tt, tt, tt] ?_ ?_
 ·intro K
  refine qqZ 6 7 rfl rfl #[tt, tt, tt, tt, tt, tt, tt, ff, ff] #[tt, tt, tt, tt, tt, tt, ff, tt, ff] (by kernel_rfl) (by kernel_rfl) (by kernel_rfl) ?_ ?_
  ·have hg4 : Rg (old w) w (old w) w := .start (fun _ h => h)
   refine qli r2 hg4 h call102 (qhl (hg4.atB h) (qlV (⟨(⟨y1.Block.Library.Cells⟩ : qv), (⟨y1.Block.Design.Instances, y1.Block.Design.Nets, y1.Block.Design.Ports⟩ : qj), y1.Block.Wires⟩ : ql) (hg4.inBS h s2) (hg4.inBS h s3) (hg4.inBS h s4) (hg4.inBS h s5) (hg4.inBS h s6)) hr5) rfl rfl rfl rfl ?_
   intro w20 us4 S8 h hv4
   obtain ⟨cs8, rfl, hr12⟩ := qlP hv4
   have hr13 := hr12
   obtain ⟨p27, k25, p28, k26, p29, k27, rfl, s21, s22, s23⟩ := qU hr12
   replace h := h.grpAdd 0 rfl hr13
   refine qan (fun _ => (h.pick [1] rfl)) ?_
   refine qax 7 rfl #[tt, tt, tt, tt, tt, tt, tt, tt, ff] (by kernel_rfl) (by kernel_rfl) ?_
   refine qW qc h rfl rfl rfl ?_
   intro w21 bb7 h
   refine qan (fun _ => (h.pick [2] rfl)) ?_
   refine qax 8 rfl #[tt, tt, tt, tt, tt, tt, tt, tt, tt] (by kernel_rfl) (by kernel_rfl) ?_
   refine zs 0 h rfl ?_
   intro w22 h
   replace h : SH _ _ [Ch.box bb7 [.string r2.Name, .int .i64 r2.Kind, .slice p27 r2.Pins.length k25, .slice p28 r2.Arcs.length k26, .slice p29 r2.Truth.length k27, .int .i64 r2.Leak, .int .i64 r2.Energy] 155, Ch.grp (old w) S8 [fct (r2 : qD) [.string r2.Name, .int .i64 r2.Kind, .slice p27 r2.Pins.length k25, .slice p28 r2.Arcs.length k26, .slice p29 r2.Truth.length k27, .int .i64 r2.Leak, .int .i64 r2.Energy]], Ch.box bb1 [.int .i64 y2.instance_, .int .i64 y2.pin, .int .i64 y2.net, .bool y2.drives] 97] := h
   refine qan (fun _ => (h.pick [2] rfl)) ?_
   exact qov [(1, _), (5, _), (9, _)] ⟨rfl, rfl, rfl, trivial⟩ (K _ _ ⟨_, _, _, _, _, _, _, _, rfl, h⟩)
  refine qW qc h rfl rfl rfl ?_
  intro w23 bb8 h
  refine qan (fun _ => (h.pick [1] rfl)) ?_
  refine qax 6 rfl #[tt, tt, tt, tt, tt, tt, tt, tt, ff] (by kernel_rfl) (by kernel_rfl) ?_
  have hg5 : Rg (old w) w (old w) w := .start (fun _ h => h)
  refine qli r2 hg5 h call102 (qhl (hg5.atB h) (qlV (⟨(⟨y1.Block.Library.Cells⟩ : qv), (⟨y1.Block.Design.Instances, y1.Block.Design.Nets, y1.Block.Design.Ports⟩ : qj), y1.Block.Wires⟩ : ql) (hg5.inBS h s2) (hg5.inBS h s3) (hg5.inBS h s4) (hg5.inBS h s5) (hg5.inBS h s6)) hr5) rfl rfl rfl rfl ?_
  intro w24 us5 S9 h hv5
  obtain ⟨cs9, rfl, hr14⟩ := qlP hv5
  have hr15 := hr14
  obtain ⟨p30, k28, p31, k29, p32, k30, rfl, s24, s25, s26⟩ := qU hr14
  replace h := h.grpAdd 0 rfl hr15
  refine qan (fun _ => (h.pick [2] rfl)) ?_
  refine qax 8 rfl #[tt, tt, tt, tt, tt, tt, tt, tt, tt] (by kernel_rfl) (by kernel_rfl) ?_
  refine zs 1 h rfl ?_
  intro w25 h
  refine qan (fun _ => (h.pick [2] rfl)) ?_
  replace h := h.pick [1, 0, 2] rfl
  exact qov [(1, _), (5, _), (9, _)] ⟨rfl, rfl, rfl, trivial⟩ (K _ _ ⟨_, _, _, _, _, _, _, _, rfl, h⟩)
 rintro e3 w26 ⟨bb9, p33, k31, p34, k32, p35, k33, S10, rfl, h⟩
 refine qdm (by kernel_rfl) ?_
 refine zSSR (zp1 rfl (zl 0 3 h rfl (zp1 rfl ?_)))
 obtain ⟨r3, hr16, hF⟩ := qd hF
 refine qp r3 h call103 (qdw ⟨_, _, rfl, (qg7 (h.grp 1 0 rfl rfl)).2.1.1⟩ (qhU (x := y2) 2 h rfl (qga y2)) hr16) rfl rfl rfl rfl ?_
 intro w27 h
 refine qb ?_
 refine qu rfl hF ?_ ?_ <;> intro hF
 ·refine qbd ?_
  refine qe5 [] (fun w' => SH w w' [Ch.box bb9 [.string r2.Name, .int .i64 r2.Kind, .slice p33 r2.Pins.length k31, .slice p34 r2.Arcs.length k32, .slice p35 r2.Truth.length k33, .int .i64 r2.Leak, .int .i64 r2.Energy] 155, Ch.box bb1 [.int .i64 y2.instance_, .int .i64 y2.pin, .int .i64 y2.net, .bool y2.drives] 97]) rfl 9 rfl #[ff, ff, ff, ff, ff, ff, ff, ff, ff] (by kernel_rfl) (fun w28 hb => ?_)
  replace h := h.ext hb
  clear hb
  refine qi 0 rfl #[tt, ff, ff, ff, ff, ff, ff, ff, ff] (by kernel_rfl) (by kernel_rfl) (fun w' hw => v_p qc rfl w') (h.pick [0, 2] rfl) rfl ?_
  refine qi 1 rfl #[tt, tt, ff, ff, ff, ff, ff, ff, ff] (by kernel_rfl) (by kernel_rfl) (fun w' hw => v_p qc rfl w') (h.pick [0, 2] rfl) rfl ?_
  refine qi 2 rfl #[tt, tt, tt, ff, ff, ff, ff, ff, ff] (by kernel_rfl) (by kernel_rfl) (fun w' hw => qbj qc (hw.box 1 rfl) (j := 1) rfl rfl rfl) (h.pick [0, 2] rfl) rfl ?_
  refine qi 3 rfl #[tt, tt, tt, tt, ff, ff, ff, ff, ff] (by kernel_rfl) (by kernel_rfl) (fun w' hw => v_p qc rfl w') (h.pick [0, 2] rfl) rfl ?_
  refine qi 4 rfl #[tt, tt, tt, tt, tt, ff, ff, ff, ff] (by kernel_rfl) (by kernel_rfl) (fun w' hw => qbj qc (hw.box 0 rfl) (j := 0) rfl rfl rfl) (h.pick [0, 2] rfl) rfl ?_
  refine qax 5 rfl #[tt, tt, tt, tt, tt, tt, ff, ff, ff] (by kernel_rfl) (by kernel_rfl) ?_
  obtain ⟨r4, hr17, hF⟩ := qd hF
  refine qT r4 h call106 (qey (h.grp 1 0 rfl rfl) hr17) rfl rfl rfl rfl ?_
  intro w29 h
  refine qan (fun _ => (h.pick [0, 2] rfl)) ?_
  refine qi 6 rfl #[tt, tt, tt, tt, tt, tt, tt, ff, ff] (by kernel_rfl) (by kernel_rfl) (fun w' hw => v_p qc rfl w') (h.pick [0, 2] rfl) rfl ?_
  refine qax 7 rfl #[tt, tt, tt, tt, tt, tt, tt, tt, ff] (by kernel_rfl) (by kernel_rfl) ?_
  refine qat qc [.tmp 71] _ ([W64 ((W64 (a_1 - y2.pin)) + r4)] : List Int) h rfl rfl rfl rfl rfl rfl rfl rfl rfl ⟨rfl, trivial⟩ rfl ?_
  intro w30 p36 S11 h
  refine qan (fun _ => (h.pick [1, 3] rfl)) ?_
  refine qi 8 rfl #[tt, tt, tt, tt, tt, tt, tt, tt, tt] (by kernel_rfl) (by kernel_rfl) (fun w' hw => v_p qc rfl w') (h.pick [1, 3] rfl) rfl ?_
  refine qdm (by kernel_rfl) ?_
  replace h := h.pick [0, 1, 3] rfl
  obtain rfl := qh hF
  exact qae qc (ρ := (List Int)) [GoT.v (List Int) [.slice p36 1 1]] h ⟨rfl, trivial⟩ (PV.done h (qaf (qaC 0 h rfl)))
 refine zKSR (zp1 rfl (qb ?_))
 replace h := h.pick [0, 2] rfl
 obtain rfl := qh hF
 exact qae qc (ρ := (List Int)) [GoT.v (List Int) [.slice none 0 0]] h ⟨rfl, trivial⟩ (PV.done h (qaf qlF))

end Go.Fw


namespace Go.Fw
open Go
set_option maxRecDepth 100000

theorem qmC {d : qj} {k : Int} {n i : Nat} (hi : i < (sinksL d k n).length) : ∃ y : Nat, y < n ∧ idx (sinksL d k n) (i : Int) = some (y : Int) ∧ snkQ d k y = true := by
  rw [qf8 hi]
  have hm : (sinksL d k n)[i] ∈ sinksL d k n := List.getElem_mem hi
  generalize (sinksL d k n)[i] = z at hm
  unfold sinksL at hm
  obtain ⟨y, hy, rfl⟩ := List.mem_map.1 hm
  obtain ⟨h1, h2⟩ := List.mem_filter.1 hy
  exact ⟨y, List.mem_range.1 h1, rfl, h2⟩

theorem qlZ {d : qj} {k : Int} (h : smallD d) : Ev (fun n => qed n d k) (sinksL d k (places d).length) := by
  have hl := qaA h
  have hL : Ev (fun n => qaD k (places d) n ([] : List Int) 0) (sinksL d k (places d).length, ((places d).length : Int)) := by
    refine loopF (Lf := qaD k (places d)) (S := fun j => sinksL d k j) (len := (places d).length) (fun n => ?_) (fun j hj X hX => ?_)
    · simp only [qaD, qt (Nat.le_refl _), cond_false]
    · have hc : (sinksL d k j).length + [(j : Int)].length ≤ 2147483648 := by
        rw [qeS]
        have : cntP (snkQ d k) j ≤ j := qd9
        simp; omega
      simp only [qaD, qq hj, cond_true, qam hj, Option.bind_some, qm (show j < 9223372036854775807 by omega)]
      rw [qic] at hX
      unfold snkQ at hX
      cases h1 : ((gt (places d) j).net == k)
      · rw [h1] at hX
        simp only [Bool.false_and, cond_false, List.append_nil] at hX ⊢
        exact hX
      · cases h2 : (gt (places d) j).drives
        · rw [h1, h2] at hX
          simp only [Bool.not_false, Bool.and_self, cond_true, qc9 hc, Option.bind_some] at hX ⊢
          exact hX
        · rw [h1, h2] at hX
          simp only [Bool.not_true, Bool.and_false, cond_false, List.append_nil, cond_true] at hX ⊢
          exact hX
  unfold qed
  exact Ev.bind (qjr h) (Ev.bind hL .done)

/-- What a valid block says of a wire. -/
structure wireOk (b : ql) (i : Nat) : Prop where
  lo : 1 ≤ (gt b.Wires i).Parent.length
  hi : (gt b.Wires i).Parent.length ≤ 8
  res : (gt b.Wires i).Res.length = (gt b.Wires i).Parent.length
  cap : (gt b.Wires i).Cap.length = (gt b.Wires i).Parent.length
  par : ∀ j, 0 < j → j < (gt b.Wires i).Parent.length → 0 ≤ at0 (gt b.Wires i).Parent j ∧ at0 (gt b.Wires i).Parent j < j
  snk : (gt b.Wires i).Sink.length = (sinksL b.Design (i : Int) (places b.Design).length).length
  sin : ∀ j, j < (gt b.Wires i).Sink.length → 0 ≤ at0 (gt b.Wires i).Sink j ∧ at0 (gt b.Wires i).Sink j < (gt b.Wires i).Parent.length
theorem qjj {b : ql} (h : blockB b = true) {i : Nat} (hi : i < b.Wires.length) : wireOk b i := by
  unfold blockB at h
  rw [Bool.and_eq_true, qa8] at h
  have := h.2 i hi
  unfold wireB lenB at this
  simp only [Bool.and_eq_true, decide_eq_true_eq, beq_iff_eq] at this
  obtain ⟨⟨h1, h2⟩, h3, h4, h5, _, _, h6, h7⟩ := this
  refine ⟨h1, h2, by omega, by omega, fun j hj0 hj => ?_, ?_, fun j hj => ?_⟩
  · have := qa8.1 h5 j hj
    unfold treeB at this
    rw [show decide (j = 0) = false by simp; omega] at this
    simp only [cond_false, qc1] at this
    omega
  · rw [qeS]
    unfold snkN at h6
    omega
  · rw [qhf (d := 0), qa8] at h7
    have := h7 j hj
    rw [qc1] at this
    unfold at0
    omega
theorem qnS {b : ql} (h : blockB b = true) : b.Wires.length = b.Design.Nets.length := by
  unfold blockB at h
  simp only [Bool.and_eq_true, beq_iff_eq] at h
  omega

theorem qpH {b : ql} (h : blockB b = true) {j : Nat} (hj : j < (places b.Design).length) : ∃ c, ∀ n, qei n b.Design b.Library (gt (places b.Design) j) = some c := by
  have hd := qal h
  rcases qeP hj with ⟨i, k, hi, hk, _, e⟩ | ⟨i, hi, _, e⟩
  · rw [e]
    obtain ⟨⟨c0, c1⟩, hn, _⟩ := qg6 hd hi
    refine ⟨(gt (gt b.Library.Cells (gt b.Design.Instances i).Cell.toNat).Pins k).Cap, fun n => ?_⟩
    unfold place1
    simp only [qei, show decide ((i : Int) < 0) = false by simp, cond_false, qam hi, Option.bind_some, qfk c0 c1, qam (show k < (gt b.Library.Cells (gt b.Design.Instances i).Cell.toNat).Pins.length by omega)]
  · rw [e]
    exact ⟨0, fun n => rfl⟩

theorem qj0 {b : ql} (h : blockB b = true) {i : Nat} (hi : i < b.Wires.length) : ∃ r : List Int, r.length = (gt b.Wires i).Parent.length ∧ Ev (fun n => qcq n b (i : Int)) r := by
  have hw := qjj h hi
  have hs := qS (qal h)
  have hlo := hw.lo
  have hhi := hw.hi
  have hcap := hw.cap
  have hl := qaA hs
  obtain ⟨x1, i1, e1⟩ := loopE (Lf := qa2 b (gt b.Wires i) (places b.Design) (sinksL b.Design (i : Int) (places b.Design).length)) (fin := fun t => (t, ((sinksL b.Design (i : Int) (places b.Design).length).length : Int))) (fun _ t => t.length = (gt b.Wires i).Parent.length) (len := (sinksL b.Design (i : Int) (places b.Design).length).length)
    (fun n t => by simp only [qa2, qt (Nat.le_refl _), cond_false])
    (fun j t hj ht => by
      obtain ⟨y, hy, ey, _⟩ := qmC hj
      obtain ⟨c, hc⟩ := qpH h hy
      have hjs : j < (gt b.Wires i).Sink.length := by rw [hw.snk]; exact hj
      have hsn := hw.sin j hjs
      have hb : j < 9223372036854775807 := by
        rw [qeS] at hj
        have : cntP (snkQ b.Design (i : Int)) (places b.Design).length ≤ (places b.Design).length := qd9
        omega
      refine ⟨setS t (at0 (gt b.Wires i).Sink j) (W64 (gt t (at0 (gt b.Wires i).Sink j).toNat + c)), by rw [qi7]; exact ht, fun X hX => ?_⟩
      simp only [qa2, qq hj, cond_true, ey, Option.bind_some, qdp hjs, qfk hsn.1 (show at0 (gt b.Wires i).Sink j < (t.length : Int) by omega), qam hy, qm hb]
      exact Ev.bind ⟨0, fun n _ => hc n⟩ hX) 0 (Nat.zero_le _) (gt b.Wires i).Cap hcap
  obtain ⟨x2, i2, e2⟩ := loopDn (Lf := qa0 (gt b.Wires i)) (fin := fun t => (t, (0 : Int))) (fun t => t.length = (gt b.Wires i).Parent.length) ((gt b.Wires i).Parent.length - 1)
    (fun n t => by simp only [qa0, show decide ((0 : Int) > 0) = false from rfl, cond_false])
    (fun j t h0 hj ht => by
      have hp := hw.par j h0 (by omega)
      refine ⟨setS t (at0 (gt b.Wires i).Parent j) (W64 (gt t (at0 (gt b.Wires i).Parent j).toNat + gt t j)), by rw [qi7]; exact ht, fun X hX => ?_⟩
      simp only [qa0, show decide ((j : Int) > 0) = true by simp; omega, cond_true, qdp (show j < (gt b.Wires i).Parent.length by omega), Option.bind_some, qfk hp.1 (show at0 (gt b.Wires i).Parent j < (t.length : Int) by omega), qam (show j < t.length by omega), show (j : Int) - 1 = ((j - 1 : Nat) : Int) by omega, qdQ (show -9223372036854775808 ≤ ((j - 1 : Nat) : Int) by omega) (by omega)]
      exact hX) x1 i1
  refine ⟨x2, i2, ?_⟩
  unfold qcq qf6
  rw [qam hi]
  simp only [Option.bind_some, qc9 (show ([] : List Int).length + (gt b.Wires i).Cap.length ≤ 2147483648 by simp; omega), List.nil_append]
  refine Ev.bind (qjr hs) (Ev.bind (qlZ hs) (Ev.bind e1 ?_))
  rw [qdh (show (gt b.Wires i).Cap.length ≤ 9223372036854775807 by omega), show ((gt b.Wires i).Cap.length : Int) - 1 = (((gt b.Wires i).Parent.length - 1 : Nat) : Int) by omega]
  exact Ev.bind e2 .done

theorem qlO {b : ql} (h : blockB b = true) {i : Nat} (hi : i < b.Wires.length) : ∃ r : List Int, r.length = (gt b.Wires i).Sink.length ∧ Ev (fun n => qcN n b (i : Int)) r := by
  have hw := qjj h hi
  have hs := qS (qal h)
  have hlo := hw.lo
  have hhi := hw.hi
  have hres := hw.res
  have hl := qaA hs
  have hsl : (gt b.Wires i).Sink.length ≤ 78 := by
    rw [hw.snk, qeS]
    have : cntP (snkQ b.Design (i : Int)) (places b.Design).length ≤ (places b.Design).length := qd9
    omega
  obtain ⟨r1, l1, e1⟩ := qj0 h hi
  have hmk : mkS (r1.length : Int) (0 : Int) = some (List.replicate r1.length 0) := qg9 (by omega)
  obtain ⟨x2, i2, e2⟩ := loopE (Lf := qaT (gt b.Wires i) r1 (List.replicate r1.length 0)) (fin := fun t => (t, (r1.length : Int))) (fun j t => 1 ≤ j ∧ t.length = (gt b.Wires i).Parent.length) (len := r1.length)
    (fun n t => by simp only [qaT, List.length_replicate, qt (Nat.le_refl _), cond_false])
    (fun j t hj ht => by
      obtain ⟨h1, ht⟩ := ht
      have hp := hw.par j (by omega) (by omega)
      refine ⟨setS t (j : Int) (W64 (gt t (at0 (gt b.Wires i).Parent j).toNat + W64 (at0 (gt b.Wires i).Res j * gt r1 j))), ⟨by omega, by rw [qi7]; exact ht⟩, fun X hX => ?_⟩
      simp only [qaT, List.length_replicate, qq hj, cond_true, qdp (show j < (gt b.Wires i).Parent.length by omega), Option.bind_some, qfk hp.1 (show at0 (gt b.Wires i).Parent j < (t.length : Int) by omega), qdp (show j < (gt b.Wires i).Res.length by omega), qam hj, qam (show j < t.length by omega), qm (show j < 9223372036854775807 by omega)]
      exact hX) 1 (by omega) (List.replicate r1.length 0) ⟨Nat.le_refl _, by rw [List.length_replicate]; exact l1⟩
  obtain ⟨x3, i3, e3⟩ := loopE (Lf := qaK x2 (gt b.Wires i)) (fin := fun t => (t, ((gt b.Wires i).Sink.length : Int))) (fun j t => t.length = j) (len := (gt b.Wires i).Sink.length)
    (fun n t => by simp only [qaK, qt (Nat.le_refl _), cond_false])
    (fun j t hj ht => by
      have hsn := hw.sin j hj
      have hx2 := i2.2
      refine ⟨t ++ [gt x2 (at0 (gt b.Wires i).Sink j).toNat], by simp [ht], fun X hX => ?_⟩
      simp only [qaK, qq hj, cond_true, qdp hj, Option.bind_some, qfk hsn.1 (show at0 (gt b.Wires i).Sink j < (x2.length : Int) by omega), qc9 (show t.length + [gt x2 (at0 (gt b.Wires i).Sink j).toNat].length ≤ 2147483648 by simp; omega), qm (show j < 9223372036854775807 by omega)]
      exact hX) 0 (Nat.zero_le _) [] rfl
  refine ⟨x3, i3, ?_⟩
  unfold qcN qdX
  rw [qam hi]
  simp only [Option.bind_some]
  refine Ev.bind (b := x2) (Ev.bind e1 ?_) (Ev.bind e3 .done)
  rw [hmk]
  simp only [Option.bind_some]
  exact Ev.bind e2 .done
end Go.Fw


namespace Go.Fw
open Go
set_option maxRecDepth 100000

instance : Inhabited qa9 := ⟨⟨0, 0, 0, 0⟩⟩
instance : Inhabited qQ := ⟨⟨0, 0⟩⟩

theorem qow {α : Type} {m : Nat} {z : α} (h : m ≤ 2147483648) : mkS (m : Int) z = some (List.replicate m z) := by
  unfold mkS big
  rw [if_pos ⟨by omega, by omega⟩, Int.toNat_natCast]
theorem qo3 {α : Type} [Inhabited α] {xs : List α} {a k : Nat} {y : α} (h : k ≠ a) : gt (xs.set a y) k = gt xs k := by
  unfold gt
  rw [List.getD_eq_getElem?_getD, List.getElem?_set_ne (by omega), ← List.getD_eq_getElem?_getD]
theorem qnH {α : Type} [Inhabited α] {xs : List α} {a : Nat} {y : α} (h : a < xs.length) : gt (xs.set a y) a = y := by
  rw [qig (by rw [List.length_set]; exact h), List.getElem_set_self]
theorem qqd {a : qZ} : ∃ r : List qQ, r.length ≤ 4 ∧ ∀ n, qdj n a = some r := by
  unfold qdj
  simp only [bne, qcO]
  cases (a.Kind == 2)
  · cases (a.Kind == 3)
    · cases (a.Kind == 1)
      · exact ⟨_, by decide, fun _ => rfl⟩
      · cases (a.Sense == 1)
        · cases (a.Sense == 2)
          · exact ⟨[⟨0, 0⟩, ⟨0, 1⟩, ⟨1, 0⟩, ⟨1, 1⟩], by decide, fun _ => rfl⟩
          · exact ⟨[⟨0, 1⟩, ⟨1, 0⟩], by decide, fun _ => rfl⟩
        · exact ⟨[⟨0, 0⟩, ⟨1, 1⟩], by decide, fun _ => rfl⟩
    · exact ⟨[⟨1, 0⟩, ⟨1, 1⟩], by decide, fun _ => rfl⟩
  · exact ⟨[⟨0, 0⟩, ⟨0, 1⟩], by decide, fun _ => rfl⟩

theorem qmV {b : ql} {first : Int} (h : blockB b = true) {i : Nat} (hi : i < b.Design.Instances.length) : ∃ r : List qa9, r.length ≤ 32 ∧ Ev (fun n => qde n b (gt b.Design.Instances i) first) r := by
  obtain ⟨⟨c0, c1⟩, _, hcb⟩ := qg6 (qal h) hi
  have ha := qjM hcb
  obtain ⟨x1, i1, e1⟩ := loopE (Lf := qa1 first (gt b.Library.Cells (gt b.Design.Instances i).Cell.toNat)) (fin := fun t => (t, ((gt b.Library.Cells (gt b.Design.Instances i).Cell.toNat).Arcs.length : Int))) (fun j t => t.length ≤ 4 * j) (len := (gt b.Library.Cells (gt b.Design.Instances i).Cell.toNat).Arcs.length)
    (fun n t => by simp only [qa1, qt (Nat.le_refl _), cond_false])
    (fun j t hj ht => by
      obtain ⟨r, hr, er⟩ := qqd (a := gt (gt b.Library.Cells (gt b.Design.Instances i).Cell.toNat).Arcs j)
      obtain ⟨x2, i2, e2⟩ := loopE (Lf := qa3 first (j : Int) (gt (gt b.Library.Cells (gt b.Design.Instances i).Cell.toNat).Arcs j) r) (fin := fun t => (t, (r.length : Int))) (fun k t' => t'.length = t.length + k) (len := r.length)
        (fun n t => by simp only [qa3, qt (Nat.le_refl _), cond_false])
        (fun k t' hk ht' => ⟨t' ++ [_], by rw [List.length_append, ht', List.length_singleton]; omega, fun X hX => by
          simp only [qa3, qq hk, cond_true, qam hk, Option.bind_some, qm (show k < 9223372036854775807 by omega)]
          rw [qc9 (by rw [List.length_singleton]; omega)]
          exact hX⟩) 0 (Nat.zero_le _) t rfl
      refine ⟨x2, by omega, fun X hX => ?_⟩
      simp only [qa1, qq hj, cond_true, qam hj, Option.bind_some, er, qm (show j < 9223372036854775807 by omega)]
      exact Ev.bind e2 hX) 0 (Nat.zero_le _) [] (Nat.le_refl _)
  refine ⟨x1, by omega, ?_⟩
  unfold qde
  rw [qfk c0 c1]
  simp only [Option.bind_some]
  exact Ev.bind e1 .done

theorem qoh {b : ql} (h : blockB b = true) : ∃ ls lo de, Ev (fun n => qgB n b) (some ⟨b, places b.Design, ls, lo, de, []⟩) := by
  have hd := qal h
  have hs := qS hd
  have hl := qaA hs
  have hni := hs.ni
  have hnn := hs.nn
  have hwl := qnS h
  obtain ⟨⟨x1, z1⟩, i1, e1⟩ := loopE (τ := List qa9 × Int) (Lf := fun n t j => qc0 b n t.1 t.2 j) (fin := fun t => (t.1, t.2, (b.Design.Instances.length : Int))) (fun j t => t.1.length ≤ 32 * j) (len := b.Design.Instances.length)
    (fun n t => by simp only [qc0, qt (Nat.le_refl _), cond_false])
    (fun j t hj ht => by
      obtain ⟨r, hr, er⟩ := qmV (first := t.2) h hj
      refine ⟨(t.1 ++ r, W64 (t.2 + ((gt b.Design.Instances j).Nets.length : Int))), by rw [List.length_append]; omega, fun X hX => ?_⟩
      simp only [qc0, qq hj, cond_true, qam hj, Option.bind_some, qa6, qm (show j < 9223372036854775807 by omega)]
      have ht' : t.1.length ≤ 32 * j := ht
      refine Ev.bind er ?_
      rw [qc9 (show t.1.length + r.length ≤ 2147483648 by omega)]
      exact hX) 0 (Nat.zero_le _) ([], 0) (Nat.le_refl _)
  have hm1 : mkS (b.Wires.length : Int) (0 : Int) = some (List.replicate b.Wires.length 0) := qow (by omega)
  have hm2 : mkS (b.Wires.length : Int) ([] : List Int) = some (List.replicate b.Wires.length []) := qow (by omega)
  obtain ⟨⟨x5, x6⟩, ⟨i5, i6, i56⟩, e2⟩ := loopE (τ := List (List Int) × List Int) (Lf := fun n t j => qbL (places b.Design) n t.1 t.2 j) (fin := fun t => (t.1, t.2, ((places b.Design).length : Int))) (fun j t => t.1.length = b.Wires.length ∧ t.2.length = b.Wires.length ∧ ∀ k, (gt t.1 k).length ≤ j) (len := (places b.Design).length)
    (fun n t => by simp only [qbL, qt (Nat.le_refl _), cond_false])
    (fun j t hj ht => by
      obtain ⟨h1, h2, h3⟩ := ht
      obtain ⟨n0, n1⟩ := qiE hd hj
      cases hdr : (gt (places b.Design) j).drives
      · refine ⟨(setS t.1 (gt (places b.Design) j).net (gt t.1 (gt (places b.Design) j).net.toNat ++ [(j : Int)]), t.2), ⟨by rw [qi7]; exact h1, h2, fun k => ?_⟩, fun X hX => ?_⟩
        · show (gt (t.1.set _ _) k).length ≤ j + 1
          by_cases hk : k = (gt (places b.Design) j).net.toNat
          · subst hk
            rw [qnH (by omega), List.length_append, List.length_singleton]
            have := h3 (gt (places b.Design) j).net.toNat
            omega
          · rw [qo3 hk]
            have := h3 k
            omega
        · have := h3 (gt (places b.Design) j).net.toNat
          simp only [qbL, qq hj, cond_true, qam hj, Option.bind_some, hdr, cond_false, qfk n0 (show (gt (places b.Design) j).net < (t.1.length : Int) by omega), qm (show j < 9223372036854775807 by omega)]
          rw [qc9 (by rw [List.length_singleton]; omega)]
          exact hX
      · refine ⟨(t.1, setS t.2 (gt (places b.Design) j).net (j : Int)), ⟨h1, by rw [qi7]; exact h2, fun k => Nat.le_succ_of_le (h3 k)⟩, fun X hX => ?_⟩
        simp only [qbL, qq hj, cond_true, qam hj, Option.bind_some, hdr, qfk n0 (show (gt (places b.Design) j).net < (t.2.length : Int) by omega), qm (show j < 9223372036854775807 by omega)]
        exact hX) 0 (Nat.zero_le _) (List.replicate b.Wires.length [], List.replicate b.Wires.length 0) ⟨by simp, by simp, fun k => by
      have : gt (List.replicate b.Wires.length ([] : List Int)) k = [] := by
        unfold gt
        rw [List.getD_eq_getElem?_getD, List.getElem?_replicate]
        by_cases hk : k < b.Wires.length <;> simp [hk] <;> rfl
      rw [this]; exact Nat.le_refl _⟩
  have i5 : x5.length = b.Wires.length := i5
  have i6 : x6.length = b.Wires.length := i6
  have i56 : ∀ k, (gt x5 k).length ≤ (places b.Design).length := i56
  have hL5 : ∀ (i4 i5 y7 : Int) (y8 : Int) (t : List qa9), idx x6 i4 = some y8 → t.length ≤ 1000000 → ∃ t', t'.length = t.length + 2 ∧ Ev (fun n => qcc x6 i4 i5 y7 n t 0) (t', 2) := by
    intro i4 i5 y7 y8 t hy ht
    obtain ⟨t', h1, h2⟩ := loopE (Lf := qcc x6 i4 i5 y7) (fin := fun t => (t, (2 : Int))) (fun k t' => t'.length = t.length + k) (len := 2)
      (fun n t => by simp only [qcc]; rfl)
      (fun k t' hk ht' => ⟨t' ++ [_], by rw [List.length_append, ht', List.length_singleton]; omega, fun X hX => by
        simp only [qcc, show decide ((k : Int) < 2) = true by simp; omega, cond_true, hy, Option.bind_some, qm (show k < 9223372036854775807 by omega)]
        rw [qc9 (by rw [List.length_singleton]; omega)]
        exact hX⟩) 0 (Nat.zero_le _) t rfl
    exact ⟨t', h1, h2⟩
  have hL4 : ∀ (i4 y8 : Int) (y6 : List Int) (t : List qa9), idx x6 i4 = some y8 → y6.length ≤ 78 → t.length ≤ 900000 → ∃ t', t'.length = t.length + 2 * y6.length ∧ Ev (fun n => qcf x6 i4 y6 n t 0) (t', (y6.length : Int)) := by
    intro i4 y8 y6 t hy hy6 ht
    obtain ⟨t', h1, h2⟩ := loopE (Lf := qcf x6 i4 y6) (fin := fun t => (t, (y6.length : Int))) (fun k t' => t'.length = t.length + 2 * k) (len := y6.length)
      (fun n t => by simp only [qcf, qt (Nat.le_refl _), cond_false])
      (fun k t' hk ht' => by
        obtain ⟨t2, q1, q2⟩ := hL5 i4 (k : Int) (gt y6 k) y8 t' hy (by omega)
        refine ⟨t2, by omega, fun X hX => ?_⟩
        simp only [qcf, qq hk, cond_true, qam hk, Option.bind_some, qm (show k < 9223372036854775807 by omega)]
        exact Ev.bind q2 hX) 0 (Nat.zero_le _) t rfl
    exact ⟨t', h1, h2⟩
  obtain ⟨⟨x8, x9, x10⟩, _, e3⟩ := loopE (τ := List (List Int) × List Int × List qa9) (Lf := fun n t j => qcV b x5 x6 n t.1 t.2.1 t.2.2 j) (fin := fun t => (t.1, t.2.1, t.2.2, (b.Wires.length : Int))) (fun j t => t.1.length = j ∧ t.2.1.length = j ∧ t.2.2.length ≤ 448 + 156 * j) (len := b.Wires.length)
    (fun n t => by simp only [qcV, qt (Nat.le_refl _), cond_false])
    (fun j t hj ht => by
      obtain ⟨h1, h2, h3⟩ := ht
      have h1 : t.1.length = j := h1
      have h2 : t.2.1.length = j := h2
      have h3 : t.2.2.length ≤ 448 + 156 * j := h3
      have hw := qjj h hj
      have hlo := hw.lo
      obtain ⟨r4, l4, e4⟩ := qj0 h hj
      obtain ⟨r5, l5, e5⟩ := qlO h hj
      have h6 := i56 j
      have hy8 : idx x6 (j : Int) = some (gt x6 j) := qam (by omega)
      obtain ⟨t', q1, q2⟩ := hL4 (j : Int) (gt x6 j) (gt x5 j) t.2.2 hy8 (by omega) (by omega)
      refine ⟨(t.1 ++ [r5], t.2.1 ++ [gt r4 0], t'), ⟨by simp [h1], by simp [h2], ?_⟩, fun X hX => ?_⟩
      · show t'.length ≤ _
        omega
      · simp only [qcV, qq hj, cond_true, qm (show j < 9223372036854775807 by omega)]
        refine Ev.bind e4 ?_
        rw [show idx r4 (0 : Int) = some (gt r4 0) from qam (j := 0) (by omega)]
        simp only [Option.bind_some]
        rw [qc9 (by rw [List.length_singleton]; omega)]
        simp only [Option.bind_some]
        refine Ev.bind e5 ?_
        rw [qc9 (by rw [List.length_singleton]; omega), qam (show j < x5.length by omega)]
        simp only [Option.bind_some]
        exact Ev.bind q2 hX) 0 (Nat.zero_le _) ([], [], x1) ⟨rfl, rfl, by show x1.length ≤ _; have : x1.length ≤ 32 * b.Design.Instances.length := i1; omega⟩
  refine ⟨x10, x9, x8, ?_⟩
  unfold qgB
  refine Ev.bind (qjr hs) (Ev.bind e1 ?_)
  rw [hm1, hm2]
  simp only [Option.bind_some]
  exact Ev.bind e2 (Ev.bind e3 .done)
end Go.Fw


namespace Go.Fw
open Go
set_option maxRecDepth 100000

def clkB (b : ql) (p : Tplace) : Bool := bif decide (p.instance_ ≥ 0) then clkAt (cellAt b p.instance_).Pins p.pin else false

theorem qjI {b : ql} {V : Tview} {n j : Nat} (h : blockB b = true) (hV : V.Block = b) (hj : j < (places b.Design).length) : qbJ n (some V) (gt (places b.Design) j) = some (clkB b (gt (places b.Design) j)) := by
  rcases qeP hj with ⟨i, k, hi, hk, _, e⟩ | ⟨i, hi, _, e⟩
  · obtain ⟨⟨c0, c1⟩, hn, _⟩ := qg6 (qal h) hi
    rw [e]
    unfold place1 clkB clkAt cellAt
    simp only [qbJ, show decide ((i : Int) ≥ 0) = true by simp, cond_true, Option.bind_some, hV, qam hi, qfk c0 c1, qam (show k < (gt b.Library.Cells (gt b.Design.Instances i).Cell.toNat).Pins.length by omega), Int.toNat_natCast]
  · rw [e]; rfl

theorem qj1 {b : ql} {j : Nat} (hok : qep b) (h : blockB b = true) (hj : j < (places b.Design).length) : Ev (fun n => qft n b.Library b.Design (j : Int)) (toSp (gt (places b.Design) j), true) := by
  have hd := qal h
  have hs := qS hd
  have hl := qaA hs
  unfold qft
  refine Ev.bind (qka hok.Library hok.Design) (Ev.ff (by rw [hd]; rfl) (Ev.bind (qhW hs) ?_))
  simp only [qeI, Option.bind_some, List.length_map, qdh (show (places b.Design).length ≤ 9223372036854775807 by omega)]
  rw [show inI (j : Int) 0 (((places b.Design).length : Int) - 1) = true from qc1.2 ⟨by omega, by omega⟩]
  simp only [Bool.not_true, cond_false]
  rw [qam (show j < ((places b.Design).map toSp).length by simpa using hj), qku hj]
  exact .done

theorem qja {b : ql} {j : Nat} (hok : qep b) (h : blockB b = true) (hj : j < (places b.Design).length) : Ev (fun n => qes n b (j : Int)) (clkB b (gt (places b.Design) j)) := by
  unfold qes
  refine Ev.bind (qj1 hok h hj) ?_
  rcases qeP hj with ⟨i, k, hi, hk, _, e⟩ | ⟨i, hi, _, e⟩
  · obtain ⟨⟨c0, c1⟩, hn, _⟩ := qg6 (qal h) hi
    rw [e]
    unfold place1 clkB clkAt cellAt toSp
    simp only [qeX, show decide ((i : Int) ≥ 0) = true by simp, cond_true, Option.bind_some, qam hi, qfk c0 c1, qam (show k < (gt b.Library.Cells (gt b.Design.Instances i).Cell.toNat).Pins.length by omega), Int.toNat_natCast]
    exact .done
  · rw [e]; exact .done

theorem ql6 {b : ql} {j : Nat} (hok : qep b) (h : blockB b = true) (hj : j < (places b.Design).length) : Ev (fun n => qe4 n b.Library b.Design (j : Int)) (gt (places b.Design) j).net := by
  unfold qe4
  exact Ev.bind (qj1 hok h hj) .done

theorem qm2 {b : ql} {k : Int} (h : blockB b = true) {j : Nat} (hj : j < (places b.Design).length) (hk : (gt (places b.Design) j).net = k) (hdr : (gt (places b.Design) j).drives = true) : Ev (fun n => qfr n b.Design k) (j : Int) := by
  have hd := qal h
  have hs := qS hd
  have hl := qaA hs
  have e : ixL (fun q : Tl05Place => (q.net == k) && q.drives) ((places b.Design).map toSp) = (j : Int) := by
    refine qqi (by simpa using hj) ?_ (fun i hi hq => ?_)
    · rw [qku hj]
      show (((gt (places b.Design) j).net == k) && (gt (places b.Design) j).drives) = true
      rw [hk, hdr]; simp
    · have hi' : i < (places b.Design).length := by simpa using hi
      rw [qku hi'] at hq
      have hq' : (((gt (places b.Design) i).net == k) && (gt (places b.Design) i).drives) = true := hq
      simp only [Bool.and_eq_true, beq_iff_eq] at hq'
      exact qna hd hi' hj (by rw [hq'.1, hk]) hq'.2 hdr
  unfold qfr
  refine Ev.bind (qhW hs) ?_
  rw [← e]
  exact qe3 (fin := (((places b.Design).map toSp).length : Int)) (Lf := qbD k ((places b.Design).map toSp)) (pf := fun _ q => some ((q.net == k) && q.drives)) (fun _ _ => .done)
    (fun n => by simp only [qbD, qt (Nat.le_refl _), cond_false])
    (fun n j x hx => by
      have hj := (List.getElem?_eq_some_iff.1 hx).1
      have hj' : j < (places b.Design).length := by simpa using hj
      simp only [qbD, qq hj, cond_true, qaU hx, Option.bind_some, qm (show j < 9223372036854775807 by omega)]
      cases (x.net == k) <;> cases x.drives <;> rfl)
    (fun n => by congr 1; funext o; cases o <;> rfl)

theorem qnV {b : ql} {i k : Nat} (h : blockB b = true) (hi : i < b.Design.Instances.length) (hk : k < (gt b.Design.Instances i).Nets.length) : Ev (fun n => qfC n b.Design (i : Int) (k : Int)) ((off b.Design i + k : Nat) : Int) := by
  have hd := qal h
  have hs := qS hd
  have hl := qaA hs
  obtain ⟨hj, ej⟩ := qix hi hk
  have e : ixL (fun q : Tl05Place => (q.instance_ == (i : Int)) && (q.pin == (k : Int))) ((places b.Design).map toSp) = ((off b.Design i + k : Nat) : Int) := by
    refine qqi (by simpa using hj) ?_ (fun m hm hq => ?_)
    · rw [qku hj, ej]
      unfold place1 toSp
      simp
    · have hm' : m < (places b.Design).length := by simpa using hm
      rw [qku hm'] at hq
      rcases qeP hm' with ⟨i', k', hi', hk', em, e'⟩ | ⟨i', hi', em, e'⟩
      · rw [e'] at hq
        unfold place1 toSp at hq
        simp only [Bool.and_eq_true, beq_iff_eq] at hq
        obtain rfl : i' = i := by omega
        obtain rfl : k' = k := by omega
        exact em
      · rw [e'] at hq
        unfold place2 toSp at hq
        simp only [Bool.and_eq_true, beq_iff_eq] at hq
        omega
  unfold qfC
  refine Ev.bind (qhW hs) ?_
  rw [← e]
  exact qe3 (fin := (((places b.Design).map toSp).length : Int)) (Lf := qci (i : Int) (k : Int) ((places b.Design).map toSp)) (pf := fun _ q => some ((q.instance_ == (i : Int)) && (q.pin == (k : Int)))) (fun _ _ => .done)
    (fun n => by simp only [qci, qt (Nat.le_refl _), cond_false])
    (fun n j x hx => by
      have hj := (List.getElem?_eq_some_iff.1 hx).1
      have hj' : j < (places b.Design).length := by simpa using hj
      simp only [qci, qq hj, cond_true, qaU hx, Option.bind_some, qm (show j < 9223372036854775807 by omega)]
      cases (x.instance_ == (i : Int)) <;> cases (x.pin == (k : Int)) <;> rfl)
    (fun n => by congr 1; funext o; cases o <;> rfl)

/-! ### Successors -/

def freeB (b : ql) (y : Int) : Bool := !clkB b (gt (places b.Design) y.toNat)
def dataB (c : qD) (pin : Int) : Bool := c.Arcs.any fun a => (a.From == pin) && decide (a.Kind ≤ 3)
def succL (b : ql) (j : Nat) : List Int :=
  bif (gt (places b.Design) j).drives then (sinksL b.Design (gt (places b.Design) j).net (places b.Design).length).filter (freeB b)
  else bif decide ((gt (places b.Design) j).instance_ < 0) then []
  else bif dataB (cellAt b (gt (places b.Design) j).instance_) (gt (places b.Design) j).pin then [(j : Int) - (gt (places b.Design) j).pin + (((cellAt b (gt (places b.Design) j).instance_).Pins.length : Int) - 1)] else []

theorem qnN {c : qD} {p : Tplace} (hc : cellB c = true) : Ev (fun n => qX n c.Arcs p) (dataB c p.pin) := by
  have ha := qjM hc
  unfold qX
  refine Ev.bind (b := ixL (fun a : qZ => (a.From == p.pin) && decide (a.Kind ≤ 3)) c.Arcs) (qe3 (fin := (c.Arcs.length : Int)) (Lf := qH c.Arcs p) (pf := fun n x => qcK n x p) (fun x hx => ?_)
    (fun n => by simp only [qH, qt (Nat.le_refl _), cond_false])
    (fun n j x hx => by
      have hj := (List.getElem?_eq_some_iff.1 hx).1
      simp only [qH, qq hj, cond_true, qaU hx, Option.bind_some, qm (show j < 9223372036854775807 by omega)])
    (fun n => by unfold qaw; congr 1; funext o; cases o <;> rfl)) (Ev.now (by rw [qi8]; rfl))
  obtain ⟨j, hj, rfl⟩ := List.getElem_of_mem hx
  have hk := (qnC hc hj).1
  rw [qig hj] at hk
  refine ⟨0, fun n _ => ?_⟩
  have e : decide (c.Arcs[j].Kind ≤ 3) = ((c.Arcs[j].Kind == 1) || ((c.Arcs[j].Kind == 2) || (c.Arcs[j].Kind == 3))) := by
    rw [Bool.eq_iff_iff]; simp; omega
  rw [e]
  unfold qcK qgw
  cases (c.Arcs[j].Kind == 1) <;> cases (c.Arcs[j].Kind == 2) <;> cases (c.Arcs[j].Kind == 3) <;> simp

theorem qie {b : ql} {V : Tview} {j : Nat} (h : blockB b = true) (hV : V.Block = b) (hP : V.places = places b.Design) (hj : j < (places b.Design).length) : Ev (fun n => qbH n (some V) (j : Int)) (succL b j) := by
  have hd := qal h
  have hs := qS hd
  have hl := qaA hs
  unfold qbH succL
  simp only [Option.bind_some, hP, qam hj]
  refine Ev.iff (fun _ => ?_) (fun _ => Ev.iff (fun _ => .done) (fun h0 => ?_))
  · have hL : Ev (fun n => qad (some V) V (gt (places b.Design) j) n ([] : List Int) 0) ((sinksL b.Design (gt (places b.Design) j).net (places b.Design).length).filter (freeB b), ((places b.Design).length : Int)) := by
      refine loopF (Lf := qad (some V) V (gt (places b.Design) j)) (S := fun m => (sinksL b.Design (gt (places b.Design) j).net m).filter (freeB b)) (len := (places b.Design).length) (fun n => ?_) (fun m hm X hX => ?_)
      · simp only [qad, hP, qt (Nat.le_refl _), cond_false]
      · have hc : ((sinksL b.Design (gt (places b.Design) j).net m).filter (freeB b)).length + [(m : Int)].length ≤ 2147483648 := by
          have h1 := List.length_filter_le (freeB b) (sinksL b.Design (gt (places b.Design) j).net m)
          rw [qeS] at h1
          have : cntP (snkQ b.Design (gt (places b.Design) j).net) m ≤ m := qd9
          rw [List.length_singleton]; omega
        simp only [qad, hP, qq hm, cond_true, qam hm, Option.bind_some, qjI h hV hm, qm (show m < 9223372036854775807 by omega)]
        rw [qic] at hX
        unfold snkQ at hX
        cases h1 : ((gt (places b.Design) m).net == (gt (places b.Design) j).net)
        · rw [h1] at hX
          simp only [Bool.false_and, cond_false, List.append_nil] at hX ⊢
          exact hX
        · cases h2 : (gt (places b.Design) m).drives
          · rw [h1, h2] at hX
            simp only [Bool.not_false, Bool.and_self, cond_true, List.filter_append] at hX ⊢
            have hf : freeB b (m : Int) = !clkB b (gt (places b.Design) m) := by unfold freeB; rw [Int.toNat_natCast]
            cases h3 : clkB b (gt (places b.Design) m)
            · rw [h3] at hf
              rw [List.filter_cons_of_pos (by rw [hf]; rfl), List.filter_nil] at hX
              simp only [Bool.not_false, cond_true, qc9 hc, Option.bind_some]
              exact hX
            · rw [h3] at hf
              rw [List.filter_cons_of_neg (by rw [hf]; decide), List.filter_nil, List.append_nil] at hX
              exact hX
          · rw [h1, h2] at hX
            simp only [Bool.not_true, Bool.and_false, cond_false, List.append_nil, cond_true] at hX ⊢
            exact hX
    exact Ev.bind hL .done
  · rcases qeP hj with ⟨i, k, hi, hk, ej, e⟩ | ⟨i, hi, _, e⟩
    · obtain ⟨⟨c0, c1⟩, hn, hcb⟩ := qg6 hd hi
      have hxs := hs.nx i hi
      rw [e]
      have ec : cellAt b (place1 b.Design i k).instance_ = gt b.Library.Cells (gt b.Design.Instances i).Cell.toNat := by
        unfold cellAt place1; rw [Int.toNat_natCast]
      rw [ec]
      have e1 : ∀ n, qej n V.Block (place1 b.Design i k).instance_ = some (gt b.Library.Cells (gt b.Design.Instances i).Cell.toNat) := by
        intro n
        rw [hV]
        unfold place1
        simp only [qej, qam hi, qfk c0 c1, Option.bind_some]
      refine Ev.bind ⟨0, fun n _ => e1 n⟩ (Ev.bind (qnN hcb) (Ev.iff (fun _ => ?_) (fun _ => .done)))
      simp only [qbT, qbk, Option.bind_some]
      refine Ev.now ?_
      have ep : (place1 b.Design i k).pin = (k : Int) := rfl
      rw [ep, qdh (by omega), qdQ (show -9223372036854775808 ≤ (j : Int) - (k : Int) by omega) (by omega), qdQ (by omega) (by omega)]
    · rw [e] at h0
      exact absurd h0 (by show ¬ decide ((-1 : Int) < 0) = false; decide)

theorem qjg {b : ql} {j : Nat} (hok : qep b) (h : blockB b = true) (hj : j < (places b.Design).length) : Ev (fun n => qet n b (j : Int)) (succL b j) := by
  have hd := qal h
  have hs := qS hd
  have hl := qaA hs
  obtain ⟨n0, n1⟩ := qiE hd hj
  obtain ⟨jd, hjd, nd, dd⟩ := qq6 hd n0 n1
  have hsl : (sinksL b.Design (gt (places b.Design) j).net (places b.Design).length).length ≤ 78 := by
    rw [qeS]
    have : cntP (snkQ b.Design (gt (places b.Design) j).net) (places b.Design).length ≤ (places b.Design).length := qd9
    omega
  unfold qet
  refine Ev.bind (qj1 hok h hj) (Ev.bind (ql6 hok h hj) (Ev.bind (qm2 h hjd nd dd) ?_))
  have e0 : ((jd : Int) == (j : Int)) = (gt (places b.Design) j).drives := by
    rw [Bool.eq_iff_iff, beq_iff_eq]
    constructor
    · intro e
      obtain rfl : jd = j := by omega
      exact dd
    · intro hdj
      have := qna hd hjd hj nd dd hdj
      omega
  rw [e0]
  unfold succL
  refine Ev.iff (fun _ => ?_) (fun _ => Ev.iff (fun _ => .done) (fun h0 => ?_))
  · refine Ev.bind (qkI hs) ?_
    have hL : Ev (fun n => qbs b (sinksL b.Design (gt (places b.Design) j).net (places b.Design).length) n ([] : List Int) 0) ((sinksL b.Design (gt (places b.Design) j).net (places b.Design).length).filter (freeB b), ((sinksL b.Design (gt (places b.Design) j).net (places b.Design).length).length : Int)) := by
      refine loopF (Lf := qbs b (sinksL b.Design (gt (places b.Design) j).net (places b.Design).length)) (S := fun m => ((sinksL b.Design (gt (places b.Design) j).net (places b.Design).length).take m).filter (freeB b)) (len := (sinksL b.Design (gt (places b.Design) j).net (places b.Design).length).length) (fun n => ?_) (fun m hm X hX => ?_)
      · simp only [qbs, qt (Nat.le_refl _), cond_false, List.take_length]
      · obtain ⟨y, hy, ey, _⟩ := qmC hm
        have hc : (((sinksL b.Design (gt (places b.Design) j).net (places b.Design).length).take m).filter (freeB b)).length + [(y : Int)].length ≤ 2147483648 := by
          have h1 := List.length_filter_le (freeB b) ((sinksL b.Design (gt (places b.Design) j).net (places b.Design).length).take m)
          rw [List.length_take] at h1
          rw [List.length_singleton]; omega
        have eg : (sinksL b.Design (gt (places b.Design) j).net (places b.Design).length)[m] = (y : Int) := by
          rw [qf8 hm] at ey; exact Option.some.inj ey
        rw [List.take_succ_eq_append_getElem hm, List.filter_append, eg] at hX
        simp only [qbs, qq hm, cond_true, ey, Option.bind_some, qm (show m < 9223372036854775807 by omega)]
        refine Ev.bind (qja hok h hy) ?_
        have hf : freeB b (y : Int) = !clkB b (gt (places b.Design) y) := by unfold freeB; rw [Int.toNat_natCast]
        cases h3 : clkB b (gt (places b.Design) y)
        · rw [h3] at hf
          rw [List.filter_cons_of_pos (by rw [hf]; rfl), List.filter_nil] at hX
          simp only [Bool.not_false, cond_true, qc9 hc, Option.bind_some]
          exact hX
        · rw [h3] at hf
          rw [List.filter_cons_of_neg (by rw [hf]; decide), List.filter_nil, List.append_nil] at hX
          exact hX
    exact Ev.bind hL .done
  · rcases qeP hj with ⟨i, k, hi, hk, ej, e⟩ | ⟨i, hi, _, e⟩
    · obtain ⟨⟨c0, c1⟩, hn, hcb⟩ := qg6 hd hi
      have hxs := hs.nx i hi
      rw [e]
      have ec : cellAt b (place1 b.Design i k).instance_ = gt b.Library.Cells (gt b.Design.Instances i).Cell.toNat := by
        unfold cellAt place1; rw [Int.toNat_natCast]
      rw [ec]
      have hA := qjM hcb
      have e1 : ∀ n, qeX n b (toSp (place1 b.Design i k)).instance_ = some (gt b.Library.Cells (gt b.Design.Instances i).Cell.toNat) := by
        intro n
        unfold place1 toSp
        simp only [qeX, qam hi, qfk c0 c1, Option.bind_some]
      have e2 : Ev (fun n => qfC n b.Design (toSp (place1 b.Design i k)).instance_ (W64 (((gt b.Library.Cells (gt b.Design.Instances i).Cell.toNat).Pins.length : Int) - 1))) ((j : Int) - (k : Int) + (((gt b.Library.Cells (gt b.Design.Instances i).Cell.toNat).Pins.length : Int) - 1)) := by
        have := qnV h hi (k := (gt b.Library.Cells (gt b.Design.Instances i).Cell.toNat).Pins.length - 1) (by omega)
        rw [qdh (by omega), show ((gt b.Library.Cells (gt b.Design.Instances i).Cell.toNat).Pins.length : Int) - 1 = (((gt b.Library.Cells (gt b.Design.Instances i).Cell.toNat).Pins.length - 1 : Nat) : Int) by omega]
        refine this.cast ?_
        omega
      have hL2 : Ev (fun n => qcs b (toSp (place1 b.Design i k)) (gt b.Library.Cells (gt b.Design.Instances i).Cell.toNat) n 0) (bif ((gt b.Library.Cells (gt b.Design.Instances i).Cell.toNat).Arcs.all fun a => !((a.From == (k : Int)) && decide (a.Kind ≤ 3))) then .nxt ((gt b.Library.Cells (gt b.Design.Instances i).Cell.toNat).Arcs.length : Int) else .ret [(j : Int) - (k : Int) + (((gt b.Library.Cells (gt b.Design.Instances i).Cell.toNat).Pins.length : Int) - 1)]) :=
        qji (fun n => by simp only [qcs, qt (Nat.le_refl _), cond_false]) (fun m hm X hX => by
          simp only [qcs, qq hm, cond_true, qf8 hm, Option.bind_some, qm (show m < 9223372036854775807 by omega)]
          rw [show (toSp (place1 b.Design i k)).pin = (k : Int) from rfl]
          refine Ev.bind (b := ((gt b.Library.Cells (gt b.Design.Instances i).Cell.toNat).Arcs[m].From == (k : Int)) && decide ((gt b.Library.Cells (gt b.Design.Instances i).Cell.toNat).Arcs[m].Kind ≤ 3)) (Ev.andP fun _ => .done) ?_
          cases (((gt b.Library.Cells (gt b.Design.Instances i).Cell.toNat).Arcs[m].From == (k : Int)) && decide ((gt b.Library.Cells (gt b.Design.Instances i).Cell.toNat).Arcs[m].Kind ≤ 3))
          · exact hX
          · exact Ev.bind e2 .done)
      refine Ev.bind ⟨0, fun n _ => e1 n⟩ (Ev.bind hL2 ?_)
      have e3 : dataB (gt b.Library.Cells (gt b.Design.Instances i).Cell.toNat) (place1 b.Design i k).pin = !((gt b.Library.Cells (gt b.Design.Instances i).Cell.toNat).Arcs.all fun a => !((a.From == (k : Int)) && decide (a.Kind ≤ 3))) := by
        unfold dataB
        rw [show (place1 b.Design i k).pin = (k : Int) from rfl, Bool.eq_iff_iff]
        simp
      rw [e3, show (place1 b.Design i k).pin = (k : Int) from rfl]
      cases ((gt b.Library.Cells (gt b.Design.Instances i).Cell.toNat).Arcs.all fun a => !((a.From == (k : Int)) && decide (a.Kind ≤ 3))) <;> exact .done
    · rw [e] at h0
      exact absurd h0 (by show ¬ decide ((-1 : Int) < 0) = false; decide)

theorem qgd {b : ql} (h : blockB b = true) {j : Nat} : (succL b j).length ≤ 78 := by
  have hs := qS (qal h)
  have hl := qaA hs
  unfold succL
  cases (gt (places b.Design) j).drives
  · cases decide ((gt (places b.Design) j).instance_ < 0)
    · cases dataB (cellAt b (gt (places b.Design) j).instance_) (gt (places b.Design) j).pin
      · exact Nat.zero_le _
      · show 1 ≤ 78; omega
    · exact Nat.zero_le _
  · have h1 := List.length_filter_le (freeB b) (sinksL b.Design (gt (places b.Design) j).net (places b.Design).length)
    rw [qeS] at h1
    have : cntP (snkQ b.Design (gt (places b.Design) j).net) (places b.Design).length ≤ (places b.Design).length := qd9
    simp only [cond_true]
    omega

def inPl (b : ql) (x : Int) : Bool := inI x 0 (((places b.Design).length : Int) - 1)
end Go.Fw


namespace Go.Fw
open Go Go.Proofs
open Go.RowKit (Below)
set_option maxRecDepth 100000
def qda (n : Nat) (b : ql) : Option Int :=
 (qcJ n (⟨b.Design.Instances, b.Design.Nets, b.Design.Ports⟩ : qj)).bind fun r1 =>
 some (r1.length : Int)

theorem qeB {n : Nat} {w : World} {b : ql} {cs1 : List Value} (ha1 : GoT.R w (old w) b cs1) {r : Int} (hF : qda n b = some r) : RetV Tryz.prog 48 [GoT.v ql cs1] w r := by
 obtain ⟨p1, k1, p2, k2, p3, k3, p4, k4, p5, k5, rfl, s1, s2, s3, s4, s5⟩ := qag ha1
 refine qe Tryz.func48 rfl (m := 7) rfl rfl (fun h => ?_)
 rw [qda] at hF
 refine zSR (qN h rfl rfl ?_)
 intro w1 bb1 h
 refine zp1 rfl (zNSR (zp1 rfl (zl 0 1 h rfl ?_)))
 obtain ⟨r1, hr1, hF⟩ := qd hF
 refine qas r1 h call93 (qee (qaS (⟨b.Design.Instances, b.Design.Nets, b.Design.Ports⟩ : qj) (h.oldS s2) (h.oldS s3) (h.oldS s4)) hr1) rfl rfl rfl rfl ?_
 intro w2 S1 p6 k6 h
 exact zp2 rfl (qb (qaH qc h hF ⟨rfl, trivial⟩))

def qbY (r2 : (List Int)) : Nat → (List Int) → Int → Option ((List Int) × Int)
 | 0, _, _ => none
 | n + 1, x3, i2 =>
  bif decide (i2 < (r2.length : Int)) then
   (idx r2 i2).bind fun y1 =>
   (idx x3 y1).bind fun y2 =>
   (idx x3 y1).bind fun _ =>
   qbY r2 n (setS x3 y1 (W64 (y2 + 1))) (W64 (i2 + 1))
  else
   some (x3, i2)

def qbf (r3 : (List Int)) : Nat → (List Int) → (List Int) → Int → Option ((List Int) × (List Int) × Int)
 | 0, _, _, _ => none
 | n + 1, x8, x9, i5 =>
  bif decide (i5 < (r3.length : Int)) then
   (idx r3 i5).bind fun y6 =>
   (idx x9 y6).bind fun y7 =>
   (idx x9 y6).bind fun _ =>
   (idx (setS x9 y6 (W64 (y7 - 1))) y6).bind fun y9 =>
   bif (y9 == 0) then
    (appS x8 ([y6] : List Int)).bind fun x10 =>
    qbf r3 n x10 (setS x9 y6 (W64 (y7 - 1))) (W64 (i5 + 1))
   else
    qbf r3 n x8 (setS x9 y6 (W64 (y7 - 1))) (W64 (i5 + 1))
  else
   some (x8, x9, i5)

def qbW (a_0 : ql) : Nat → (List Int) → (List Int) → Int → Option ((List Int) × (List Int) × Int)
 | 0, _, _, _ => none
 | n + 1, x6, x7, i4 =>
  bif decide (i4 < (x6.length : Int)) then
   (idx x6 i4).bind fun y5 =>
   (qet n a_0 y5).bind fun r3 =>
   (qbf r3 n x6 x7 0).bind fun o => match o with
   | (x8, x9, _) =>
    qbW a_0 n x8 x9 (W64 (i4 + 1))
  else
   some (x6, x7, i4)

def qbn (r1 : Int) (x2 : (List Int)) : Nat → (List Int) → Int → Option ((List Int) × Int)
 | 0, _, _ => none
 | n + 1, x4, i3 =>
  bif decide (i3 < r1) then
   (idx x2 i3).bind fun y4 =>
   bif (y4 == 0) then
    (appS x4 ([i3] : List Int)).bind fun x5 =>
    qbn r1 x2 n x5 (W64 (i3 + 1))
   else
    qbn r1 x2 n x4 (W64 (i3 + 1))
  else
   some (x4, i3)

def qbR (a_0 : ql) (r1 : Int) : Nat → (List Int) → Int → Option ((List Int) × Int)
 | 0, _, _ => none
 | n + 1, x2, i1 =>
  bif decide (i1 < r1) then
   (qet n a_0 i1).bind fun r2 =>
   (qbY r2 n x2 0).bind fun o => match o with
   | (x3, _) =>
    qbR a_0 r1 n x3 (W64 (i1 + 1))
  else
   some (x2, i1)

def qfU (n : Nat) (a_0 : ql) : Option ((List Int) × Bool) :=
 (qda n a_0).bind fun r1 =>
 (mkS r1 (0 : Int)).bind fun x1 =>
 (qbR a_0 r1 n x1 0).bind fun o => match o with
 | (x2, _) =>
  (qbn r1 x2 n ([] : List Int) 0).bind fun o => match o with
  | (x4, _) =>
   (qbW a_0 n x4 x2 0).bind fun o => match o with
   | (x6, _, _) =>
    some (x6, ((x6.length : Int) == r1))

theorem qkz {n : Nat} {w : World} {a_0 : ql} {cs1 : List Value} (ha1 : GoT.R w (old w) a_0 cs1) {r : ((List Int) × Bool)} (hF : qfU n a_0 = some r) : RetV Tryz.prog 45 [GoT.v ql cs1] w r := by
 obtain ⟨p1, k1, p2, k2, p3, k3, p4, k4, p5, k5, rfl, s1, s2, s3, s4, s5⟩ := qag ha1
 refine qe Tryz.func45 rfl (m := 101) rfl rfl (fun h => ?_)
 rw [qfU] at hF
 refine zSR (qN h rfl rfl ?_)
 intro w1 bb1 h
 refine zp2 rfl (zNSR (zl 0 0 h rfl ?_))
 obtain ⟨r1, hr1, hF⟩ := qd hF
 refine qT r1 h call48 (qeB (h.old ha1) hr1) rfl rfl rfl rfl ?_
 intro w2 h
 refine zp1 rfl (zNSR (zp1 rfl ?_))
 obtain ⟨x1, hx1, hF⟩ := qd hF
 obtain ⟨g1, g2, hx1⟩ := qcn hx1
 refine qdo qc Int h rfl rfl rfl rfl rfl rfl rfl rfl rfl g1 g2 hx1 rfl ?_
 intro w3 S1 p6 h
 refine zp1 rfl (zNSSR (zp1 rfl (qb ?_)))
 obtain ⟨o1, hF, hK1⟩ := qd hF
 refine qw (qP [(1, _), (4, _), (5, _), (6, _)] ⟨rfl, rfl, rfl, rfl, trivial⟩ ?_)
 refine qF (fun m e w' => ∃ (x2 : (List Int)) (i1 : Int), qbR a_0 r1 m x2 i1 = some o1 ∧ e = [(1, .pointer (some ⟨bb1, 0, none⟩)), (4, .int .i64 r1), (5, .slice p6 x1.length x1.length), (6, .int .i64 i1)] ∧ SH w w' [Ch.own S1 (x2 : List Int) [.slice p6 x1.length x1.length], Ch.box bb1 [.slice p1 a_0.Library.Cells.length k1, .slice p2 a_0.Design.Instances.length k2, .slice p3 a_0.Design.Nets.length k3, .slice p4 a_0.Design.Ports.length k4, .slice p5 a_0.Wires.length k5] 48]) n ⟨_, _, hF, rfl, h⟩ ?_
 rintro m1 e1 w4 ⟨x2, i1, hF, rfl, h⟩
 rcases m1 with _ | m1
 ·rw [qbR] at hF
  cases hF
 rw [qbR] at hF
 refine zSSR (zp3 rfl (qb ?_))
 refine qu rfl hF ?_ ?_ <;> intro hF
 ·refine zKSBSR (zl 1 0 h rfl (zp1 rfl ?_))
  obtain ⟨r2, hr2, hF⟩ := qd hF
  refine qas r2 h call50 (qg5 (h.old ha1) hr2) rfl rfl rfl rfl ?_
  intro w5 S2 p7 k6 h
  refine zp1 rfl (zNSR (zp1 rfl (qb ?_)))
  obtain ⟨o2, hF, hK2⟩ := qd hF
  refine qw (qP [(1, _), (4, _), (5, _), (6, _), (7, _), (8, _)] ⟨rfl, rfl, rfl, rfl, rfl, rfl, trivial⟩ ?_)
  refine qF (fun m e w' => ∃ (x3 : (List Int)) (i2 : Int), qbY r2 m x3 i2 = some o2 ∧ e = [(1, .pointer (some ⟨bb1, 0, none⟩)), (4, .int .i64 r1), (5, .slice p6 x1.length x1.length), (6, .int .i64 i1), (7, .slice p7 r2.length k6), (8, .int .i64 i2)] ∧ SH w w' [Ch.own S2 (r2 : List Int) [.slice p7 r2.length k6], Ch.own S1 (x3 : List Int) [.slice p6 x1.length x1.length], Ch.box bb1 [.slice p1 a_0.Library.Cells.length k1, .slice p2 a_0.Design.Instances.length k2, .slice p3 a_0.Design.Nets.length k3, .slice p4 a_0.Design.Ports.length k4, .slice p5 a_0.Wires.length k5] 48]) m1 ⟨_, _, hF, rfl, h⟩ ?_
  rintro m2 e2 w6 ⟨x3, i2, hF, rfl, h⟩
  rcases m2 with _ | m2
  ·rw [qbY] at hF
   cases hF
  rw [qbY] at hF
  refine zSSR (zp4 rfl (qb ?_))
  refine qu rfl hF ?_ ?_ <;> intro hF
  ·refine zKSBSR (zp2 rfl ?_)
   obtain ⟨y1, hy1, hF⟩ := qd hF
   have he1 := qf hy1
   obtain ⟨b1, o_1, q1, cs2, hp1, hq1, -, hr3, hc3⟩ := (h.sl 0 rfl).1.at hy1
   obtain rfl := hr3
   refine zx hp1 hq1 ⟨he1.1, qY he1.2.1 (h.sl 0 rfl).2⟩ rfl (zc 0 hc3 rfl (zp1 rfl (qb (qA (zp2 rfl ?_)))))
   obtain ⟨y2, hy2, hF⟩ := qd hF
   have he2 := qf hy2
   obtain ⟨b2, o_2, q2, cs3, hp2, hq2, -, hr4, hc4⟩ := (h.sl 1 rfl).1.at hy2
   obtain rfl := hr4
   refine zx hp2 hq2 ⟨he2.1, qY he2.2.1 (h.sl 1 rfl).2⟩ rfl (zc 0 hc4 rfl (zp1 rfl ?_))
   obtain ⟨y3, hy3, hF⟩ := qd hF
   have he3 := qf hy3
   obtain ⟨b3, o_3, q3, cs4, hp3, hq3, -, hr5, hc5⟩ := (h.sl 1 rfl).1.at hy3
   obtain rfl := hr5
   refine zx hp3 hq3 ⟨he3.1, qY he3.2.1 (h.sl 1 rfl).2⟩ rfl (qcH qc 1 0 (W64 (y2 + 1)) h rfl hy3 hp3 hq3 rfl hc5 rfl rfl rfl rfl rfl rfl rfl ?_)
   intro w7 h
   exact zNER (zp3 rfl (qb (qx m2 [(1, _), (4, _), (5, _), (6, _), (7, _), (8, _)] (Nat.lt_succ_self m2) ⟨rfl, rfl, rfl, rfl, rfl, rfl, trivial⟩ ⟨_, _, hF, rfl, h⟩)))
  refine qE rfl ?_
  obtain rfl := qh hF; replace hF := hK2
  refine qd1 (qA (zp3 rfl (qb ?_)))
  replace h := h.pick [1, 2] rfl
  exact qx m1 [(1, _), (4, _), (5, _), (6, _)] (Nat.lt_succ_self m1) ⟨rfl, rfl, rfl, rfl, trivial⟩ ⟨_, _, hF, rfl, h⟩
 refine qE rfl ?_
 obtain rfl := qh hF; replace hF := hK1
 refine zSR (qat qc [] _ ([] : List Int) h rfl rfl rfl rfl rfl rfl rfl rfl rfl trivial rfl ?_)
 intro w8 p8 S3 h
 refine zp1 rfl (zNSSR (zp1 rfl (qb ?_)))
 obtain ⟨o3, hF, hK3⟩ := qd hF
 refine qw (qP [(1, _), (4, _), (5, _), (10, _), (11, _)] ⟨rfl, rfl, rfl, rfl, rfl, trivial⟩ ?_)
 refine qF (fun m e w' => ∃ (S4 : Nat → Prop) (p9 : Option Addr) (ln1 : Nat) (k7 : Nat) (x4 : (List Int)) (i3 : Int), qbn r1 x2 m x4 i3 = some o3 ∧ e = [(1, .pointer (some ⟨bb1, 0, none⟩)), (4, .int .i64 r1), (5, .slice p6 x1.length x1.length), (10, .slice p9 ln1 k7), (11, .int .i64 i3)] ∧ SH w w' [Ch.own S4 (x4 : List Int) [.slice p9 ln1 k7], Ch.own S1 (x2 : List Int) [.slice p6 x1.length x1.length], Ch.box bb1 [.slice p1 a_0.Library.Cells.length k1, .slice p2 a_0.Design.Instances.length k2, .slice p3 a_0.Design.Nets.length k3, .slice p4 a_0.Design.Ports.length k4, .slice p5 a_0.Wires.length k5] 48]) n ⟨_, _, _, _, _, _, hF, rfl, h⟩ ?_
 rintro m3 e3 w9 ⟨S4, p9, ln1, k7, x4, i3, hF, rfl, h⟩
 obtain rfl := (h.sl 0 rfl).2
 rcases m3 with _ | m3
 ·rw [qbn] at hF
  cases hF
 rw [qbn] at hF
 refine zSSR (zp3 rfl (qb ?_))
 refine qu rfl hF ?_ ?_ <;> intro hF
 ·refine zKSBSR (zp2 rfl ?_)
  obtain ⟨y4, hy4, hF⟩ := qd hF
  have he4 := qf hy4
  obtain ⟨b4, o_4, q4, cs5, hp4, hq4, -, hr6, hc7⟩ := (h.sl 1 rfl).1.at hy4
  obtain rfl := hr6
  refine zx hp4 hq4 ⟨he4.1, qY he4.2.1 (h.sl 1 rfl).2⟩ rfl (zc 0 hc7 rfl (zp1 rfl (qb ?_)))
  refine qu rfl hF ?_ ?_ <;> intro hF
  ·refine qA (zp2 rfl (qat qc [.tmp 56] _ ([i3] : List Int) h rfl rfl rfl rfl rfl rfl rfl rfl rfl ⟨rfl, trivial⟩ rfl ?_))
   intro w10 p10 S5 h
   obtain ⟨x5, hx2, hF⟩ := qd hF
   obtain ⟨g3, hx2⟩ := qa4 hx2
   refine qdG qc 1 h rfl (h.sl 0 rfl).1 (h.sl 0 rfl).2 rfl rfl rfl rfl rfl rfl rfl rfl rfl g3 hx2 rfl ?_
   intro w11 p11 k8 S6 h
   refine zp1 rfl (zNER (zp3 rfl (qb ?_)))
   replace h := h.pick [1, 2, 3] rfl
   exact qx m3 [(1, _), (4, _), (5, _), (10, _), (11, _)] (Nat.lt_succ_self m3) ⟨rfl, rfl, rfl, rfl, rfl, trivial⟩ ⟨_, _, _, _, _, _, hF, rfl, h⟩
  exact zKER (zp3 rfl (qb (qx m3 [(1, _), (4, _), (5, _), (10, _), (11, _)] (Nat.lt_succ_self m3) ⟨rfl, rfl, rfl, rfl, rfl, trivial⟩ ⟨_, _, _, _, _, _, hF, rfl, h⟩)))
 refine qE rfl ?_
 obtain rfl := qh hF; replace hF := hK3
 refine zSSR (zp1 rfl (qb ?_))
 obtain ⟨o4, hF, hK4⟩ := qd hF
 refine qw (qP [(1, _), (4, _), (5, _), (10, _), (12, _)] ⟨rfl, rfl, rfl, rfl, rfl, trivial⟩ ?_)
 refine qF (fun m e w' => ∃ (S7 : Nat → Prop) (p12 : Option Addr) (ln2 : Nat) (k9 : Nat) (x6 : (List Int)) (x7 : (List Int)) (i4 : Int), qbW a_0 m x6 x7 i4 = some o4 ∧ e = [(1, .pointer (some ⟨bb1, 0, none⟩)), (4, .int .i64 r1), (5, .slice p6 x1.length x1.length), (10, .slice p12 ln2 k9), (12, .int .i64 i4)] ∧ SH w w' [Ch.own S7 (x6 : List Int) [.slice p12 ln2 k9], Ch.own S1 (x7 : List Int) [.slice p6 x1.length x1.length], Ch.box bb1 [.slice p1 a_0.Library.Cells.length k1, .slice p2 a_0.Design.Instances.length k2, .slice p3 a_0.Design.Nets.length k3, .slice p4 a_0.Design.Ports.length k4, .slice p5 a_0.Wires.length k5] 48]) n ⟨_, _, _, _, _, _, _, hF, rfl, h⟩ ?_
 rintro m4 e4 w12 ⟨S7, p12, ln2, k9, x6, x7, i4, hF, rfl, h⟩
 obtain rfl := (h.sl 0 rfl).2
 rcases m4 with _ | m4
 ·rw [qbW] at hF
  cases hF
 rw [qbW] at hF
 refine zSSR (zp4 rfl (qb ?_))
 refine qu rfl hF ?_ ?_ <;> intro hF
 ·refine zKSB (qbd ?_)
  refine qe5 [] (fun w' => SH w w' [Ch.own S7 (x6 : List Int) [.slice p12 x6.length k9], Ch.box bb1 [.slice p1 a_0.Library.Cells.length k1, .slice p2 a_0.Design.Instances.length k2, .slice p3 a_0.Design.Nets.length k3, .slice p4 a_0.Design.Ports.length k4, .slice p5 a_0.Wires.length k5] 48]) rfl 7 rfl #[ff, ff, ff, ff, ff, ff, ff] (by kernel_rfl) (fun w13 hb => ?_)
  replace h := h.ext hb
  clear hb
  refine qi 0 rfl #[tt, ff, ff, ff, ff, ff, ff] (by kernel_rfl) (by kernel_rfl) (fun w' hw => qbj qc (hw.box 1 rfl) (j := 0) rfl rfl rfl) (h.pick [0, 2] rfl) rfl ?_
  refine qi 1 rfl #[tt, tt, ff, ff, ff, ff, ff] (by kernel_rfl) (by kernel_rfl) (fun w' hw => v_p qc rfl w') (h.pick [0, 2] rfl) rfl ?_
  refine qi 2 rfl #[tt, tt, tt, ff, ff, ff, ff] (by kernel_rfl) (by kernel_rfl) (fun w' hw => v_p qc rfl w') (h.pick [0, 2] rfl) rfl ?_
  obtain ⟨y5, hy5, hF⟩ := qd hF
  have he5 := qf hy5
  obtain ⟨b5, o_5, q5, cs6, hp5, hq5, -, hr7, hc10⟩ := (h.sl 0 rfl).1.at hy5
  obtain rfl := hr7
  refine qi 3 rfl #[tt, tt, tt, tt, ff, ff, ff] (by kernel_rfl) (by kernel_rfl) (fun w' hw => qeG qc hp5 hq5 ⟨he5.1, qY he5.2.1 (h.sl 0 rfl).2⟩ rfl rfl rfl rfl rfl rfl) (h.pick [0, 2] rfl) rfl ?_
  refine qi 4 rfl #[tt, tt, tt, tt, tt, ff, ff] (by kernel_rfl) (by kernel_rfl) (fun w' hw => qbj qc (qdn (w1 := w) (S1 := fun _ => False) hw 0 rfl hy5 hp5 hq5 rfl) (j := 0) rfl rfl rfl) (h.pick [0, 2] rfl) rfl ?_
  refine qax 5 rfl #[tt, tt, tt, tt, tt, tt, ff] (by kernel_rfl) (by kernel_rfl) ?_
  obtain ⟨r3, hr8, hF⟩ := qd hF
  refine qas r3 h call50 (qg5 (h.old ha1) hr8) rfl rfl rfl rfl ?_
  intro w14 S8 p13 k10 h
  refine qan (fun _ => (h.pick [1, 3] rfl)) ?_
  refine qi 6 rfl #[tt, tt, tt, tt, tt, tt, tt] (by kernel_rfl) (by kernel_rfl) (fun w' hw => v_p qc rfl w') (h.pick [1, 3] rfl) rfl ?_
  refine qdm (by kernel_rfl) ?_
  refine zSR (zp1 rfl (qb ?_))
  obtain ⟨o5, hF, hK5⟩ := qd hF
  refine qw (qP [(1, _), (4, _), (5, _), (10, _), (12, _), (13, _), (14, _)] ⟨rfl, rfl, rfl, rfl, rfl, rfl, rfl, trivial⟩ ?_)
  refine qF (fun m e w' => ∃ (S9 : Nat → Prop) (p14 : Option Addr) (ln3 : Nat) (k11 : Nat) (x8 : (List Int)) (x9 : (List Int)) (i5 : Int), qbf r3 m x8 x9 i5 = some o5 ∧ e = [(1, .pointer (some ⟨bb1, 0, none⟩)), (4, .int .i64 r1), (5, .slice p6 x1.length x1.length), (10, .slice p14 ln3 k11), (12, .int .i64 i4), (13, .slice p13 r3.length k10), (14, .int .i64 i5)] ∧ SH w w' [Ch.own S8 (r3 : List Int) [.slice p13 r3.length k10], Ch.own S9 (x8 : List Int) [.slice p14 ln3 k11], Ch.own S1 (x9 : List Int) [.slice p6 x1.length x1.length], Ch.box bb1 [.slice p1 a_0.Library.Cells.length k1, .slice p2 a_0.Design.Instances.length k2, .slice p3 a_0.Design.Nets.length k3, .slice p4 a_0.Design.Ports.length k4, .slice p5 a_0.Wires.length k5] 48]) m4 ⟨_, _, _, _, _, _, _, hF, rfl, h⟩ ?_
  rintro m5 e5 w15 ⟨S9, p14, ln3, k11, x8, x9, i5, hF, rfl, h⟩
  obtain rfl := (h.sl 1 rfl).2
  rcases m5 with _ | m5
  ·rw [qbf] at hF
   cases hF
  rw [qbf] at hF
  refine zSSR (zp4 rfl (qb ?_))
  refine qu rfl hF ?_ ?_ <;> intro hF
  ·refine zKSBSR (zp2 rfl ?_)
   obtain ⟨y6, hy6, hF⟩ := qd hF
   have he6 := qf hy6
   obtain ⟨b6, o_6, q6, cs7, hp6, hq6, -, hr9, hc12⟩ := (h.sl 0 rfl).1.at hy6
   obtain rfl := hr9
   refine zx hp6 hq6 ⟨he6.1, qY he6.2.1 (h.sl 0 rfl).2⟩ rfl (zc 0 hc12 rfl (zp1 rfl (zNSR (zp2 rfl ?_))))
   obtain ⟨y7, hy7, hF⟩ := qd hF
   have he7 := qf hy7
   obtain ⟨b7, o_7, q7, cs8, hp7, hq7, -, hr10, hc13⟩ := (h.sl 2 rfl).1.at hy7
   obtain rfl := hr10
   refine zx hp7 hq7 ⟨he7.1, qY he7.2.1 (h.sl 2 rfl).2⟩ rfl (zc 0 hc13 rfl (zp1 rfl ?_))
   obtain ⟨y8, hy8, hF⟩ := qd hF
   have he8 := qf hy8
   obtain ⟨b8, o_8, q8, cs9, hp8, hq8, -, hr11, hc14⟩ := (h.sl 2 rfl).1.at hy8
   obtain rfl := hr11
   refine zx hp8 hq8 ⟨he8.1, qY he8.2.1 (h.sl 2 rfl).2⟩ rfl (qcH qc 2 0 (W64 (y7 - 1)) h rfl hy8 hp8 hq8 rfl hc14 rfl rfl rfl rfl rfl rfl rfl ?_)
   intro w16 h
   refine zNSR (zp2 rfl ?_)
   obtain ⟨y9, hy9, hF⟩ := qd hF
   have he9 := qf hy9
   obtain ⟨b9, o_9, q9, cs10, hp9, hq9, -, hr12, hc15⟩ := (h.sl 2 rfl).1.at hy9
   obtain rfl := hr12
   refine zx hp9 hq9 ⟨he9.1, qY he9.2.1 (h.sl 2 rfl).2⟩ rfl (zc 0 hc15 rfl (zp1 rfl (qb ?_)))
   refine qu rfl hF ?_ ?_ <;> intro hF
   ·refine qA (zp2 rfl (qat qc [.tmp 93] _ ([y6] : List Int) h rfl rfl rfl rfl rfl rfl rfl rfl rfl ⟨rfl, trivial⟩ rfl ?_))
    intro w17 p15 S10 h
    obtain ⟨x10, hx3, hF⟩ := qd hF
    obtain ⟨g4, hx3⟩ := qa4 hx3
    refine qdG qc 2 h rfl (h.sl 0 rfl).1 (h.sl 0 rfl).2 rfl rfl rfl rfl rfl rfl rfl rfl rfl g4 hx3 rfl ?_
    intro w18 p16 k12 S11 h
    refine zp1 rfl (zNER (zp3 rfl (qb ?_)))
    replace h := h.pick [1, 2, 3, 4] rfl
    exact qx m5 [(1, _), (4, _), (5, _), (10, _), (12, _), (13, _), (14, _)] (Nat.lt_succ_self m5) ⟨rfl, rfl, rfl, rfl, rfl, rfl, rfl, trivial⟩ ⟨_, _, _, _, _, _, _, hF, rfl, h⟩
   exact zKER (zp3 rfl (qb (qx m5 [(1, _), (4, _), (5, _), (10, _), (12, _), (13, _), (14, _)] (Nat.lt_succ_self m5) ⟨rfl, rfl, rfl, rfl, rfl, rfl, rfl, trivial⟩ ⟨_, _, _, _, _, _, _, hF, rfl, h⟩)))
  refine qE rfl ?_
  obtain rfl := qh hF; replace hF := hK5
  refine qd1 (qA (zp3 rfl (qb ?_)))
  replace h := h.pick [1, 2, 3] rfl
  exact qx m4 [(1, _), (4, _), (5, _), (10, _), (12, _)] (Nat.lt_succ_self m4) ⟨rfl, rfl, rfl, rfl, rfl, trivial⟩ ⟨_, _, _, _, _, _, _, hF, rfl, h⟩
 refine qE rfl ?_
 obtain rfl := qh hF; replace hF := hK4
 refine zSR (zp5 rfl (zp2 rfl (qb ?_)))
 obtain rfl := qh hF
 exact qae qc (ρ := ((List Int) × Bool)) [GoT.v (List Int) [.slice p12 x6.length k9], GoT.v Bool [.bool ((x6.length : Int) == r1)]] h ⟨rfl, rfl, trivial⟩ (PV.done h (qdr h (qaC 0 h rfl) (qaf (qaj (S := fun _ => False) rfl)) (by rfl)))

def qbu (s : (List Int)) (v : Int) : Nat → Int → Option (Flow Int Int)
 | 0, _ => none
 | n + 1, i1 =>
  bif decide (i1 < (s.length : Int)) then
   (idx s i1).bind fun y1 =>
   bif (v == y1) then
    some (.ret i1)
   else
    qbu s v n (W64 (i1 + 1))
  else
   some (.nxt i1)

def qeJ (n : Nat) (s : (List Int)) (v : Int) : Option Int :=
 (qbu s v n 0).bind fun o => match o with
 | .ret r => some r
 | .nxt _ =>
  some (-1)

theorem qjA {n : Nat} {w : World} {s : (List Int)} {v : Int} {cs1 : List Value} (ha1 : GoT.R w (old w) s cs1) {r : Int} (hF : qeJ n s v = some r) : RetV Tryz.prog 91 [GoT.v (List Int) cs1, .int .i64 v] w r := by
 obtain ⟨p1, k1, rfl, s1⟩ := ha1
 refine qe Tryz.func91 rfl (m := 19) rfl rfl (fun h => ?_)
 rw [qeJ] at hF
 refine zSR (zp1 rfl (zNSSR (zp3 rfl (qb ?_))))
 obtain ⟨o1, hF, hK1⟩ := qd hF
 refine qw (qP [(0, _), (1, _), (7, _), (8, _)] ⟨rfl, rfl, rfl, rfl, trivial⟩ ?_)
 refine qF (fun m e w' => ∃ (i1 : Int), qbu s v m i1 = some o1 ∧ e = [(0, .slice p1 s.length k1), (1, .int .i64 v), (7, .int .i64 (s.length : Int)), (8, .int .i64 i1)] ∧ SH w w' []) n ⟨_, hF, rfl, h⟩ ?_
 rintro m1 e1 w1 ⟨i1, hF, rfl, h⟩
 rcases m1 with _ | m1
 ·rw [qbu] at hF
  cases hF
 rw [qbu] at hF
 refine zSR (zp1 rfl (zNS ?_))
 refine qu rfl hF ?_ ?_ <;> intro hF
 ·refine zKSBSR (zp2 rfl (zNSR (zp2 rfl ?_)))
  refine zp1 rfl ?_
  obtain ⟨y1, hy1, hF⟩ := qd hF
  have he1 := qf hy1
  obtain ⟨b1, o_1, q1, cs2, hp1, hq1, -, hr1, hc2⟩ := s1.at hy1
  obtain rfl := hr1
  refine zxe hp1 hq1 he1 rfl (zc 0 (hc2.below h.below) rfl (zp1 rfl (qb ?_)))
  refine qu rfl hF ?_ ?_ <;> intro hF
  ·refine zSR (zp2 rfl (qb ?_))
   obtain rfl := qh hF; replace hF := hK1
   exact qaH qc h hF ⟨rfl, trivial⟩
  exact zKER (zp2 rfl (qb (qx m1 [(0, _), (1, _), (7, _), (8, _)] (Nat.lt_succ_self m1) ⟨rfl, rfl, rfl, rfl, trivial⟩ ⟨_, hF, rfl, h⟩)))
 refine qE rfl ?_
 obtain rfl := qh hF; replace hF := hK1
 exact zSR (zp1 rfl (qb (qaH qc h hF ⟨rfl, trivial⟩)))

def qaO (r1 : (List Int)) : Nat → (List Int) → Int → Option ((List Int) × Int)
 | 0, _, _ => none
 | n + 1, x3, i2 =>
  bif decide (i2 < (r1.length : Int)) then
   (idx r1 i2).bind fun y2 =>
   (idx x3 y2).bind fun y3 =>
   (idx x3 y2).bind fun _ =>
   qaO r1 n (setS x3 y2 (W64 (y3 + 1))) (W64 (i2 + 1))
  else
   some (x3, i2)

def qaP (r3 : (List Int)) : Nat → (List Int) → Int → Option ((List Int) × Int)
 | 0, _, _ => none
 | n + 1, x7, i4 =>
  bif decide (i4 < (r3.length : Int)) then
   (idx r3 i4).bind fun y6 =>
   (idx x7 y6).bind fun y7 =>
   (idx x7 y6).bind fun _ =>
   qaP r3 n (setS x7 y6 (W64 (y7 - 1))) (W64 (i4 + 1))
  else
   some (x7, i4)

def qap (a_0 : (Option Tview)) (x1 : (List Int)) : Nat → (List Int) → (List Int) → Int → Option (Flow ((List Int) × Bool) ((List Int) × (List Int) × Int))
 | 0, _, _, _ => none
 | n + 1, x4, x5, i3 =>
  bif decide (i3 < (x1.length : Int)) then
   (qeJ n x5 0).bind fun r2 =>
   bif decide (r2 < 0) then
    some (.ret ([], false))
   else
    (idx x5 r2).bind fun _ =>
    (appS x4 ([r2] : List Int)).bind fun x6 =>
    (qbH n a_0 r2).bind fun r3 =>
    (qaP r3 n (setS x5 r2 (-1)) 0).bind fun o => match o with
    | (x7, _) =>
     qap a_0 x1 n x6 x7 (W64 (i3 + 1))
  else
   some (.nxt (x4, x5, i3))

def qaN (a_0 : (Option Tview)) (y1 : Tview) : Nat → (List Int) → Int → Option ((List Int) × Int)
 | 0, _, _ => none
 | n + 1, x2, i1 =>
  bif decide (i1 < (y1.places.length : Int)) then
   (qbH n a_0 i1).bind fun r1 =>
   (qaO r1 n x2 0).bind fun o => match o with
   | (x3, _) =>
    qaN a_0 y1 n x3 (W64 (i1 + 1))
  else
   some (x2, i1)

def qdF (n : Nat) (a_0 : (Option Tview)) : Option ((List Int) × Bool) :=
 (a_0).bind fun y1 =>
 (mkS (y1.places.length : Int) (0 : Int)).bind fun x1 =>
 (qaN a_0 y1 n x1 0).bind fun o => match o with
 | (x2, _) =>
  (qap a_0 x1 n ([] : List Int) x2 0).bind fun o => match o with
  | .ret r => some r
  | .nxt (x4, _, _) =>
   some (x4, true)

theorem qiD {n : Nat} {w : World} {a_0 : (Option Tview)} {cs1 : List Value} (ha1 : GoT.R w (old w) a_0 cs1) {r : ((List Int) × Bool)} (hF : qdF n a_0 = some r) : RetV Tryz.prog 46 [GoT.v (Option Tview) cs1] w r := by
 obtain ⟨p1, rfl, s1⟩ := qiq ha1
 refine qe Tryz.func46 rfl (m := 74) rfl rfl (fun h => ?_)
 rw [qdF] at hF
 refine zSR (zp2 rfl (zNSR (zp1 rfl ?_)))
 obtain ⟨y1, hy1, hF⟩ := qd hF
 obtain ⟨b1, o_1, cs2, rfl, -, hr1, hc1⟩ := PtR.get s1 hy1
 obtain ⟨p2, k1, p3, k2, p4, k3, p5, k4, p6, k5, p7, k6, p8, k7, p9, k8, p10, k9, p11, k10, rfl, s2, s3, s4, s5, s6, s7, s8, s9, s10, s11⟩ := qhX hr1
 refine zp2 rfl (zc 5 (hc1.below h.below) rfl (zp1 rfl ?_))
 obtain ⟨x1, hx1, hF⟩ := qd hF
 obtain ⟨g1, g2, hx1⟩ := qcn hx1
 refine qdo qc Int h rfl rfl rfl rfl rfl rfl rfl rfl rfl g1 g2 hx1 rfl ?_
 intro w1 S1 p12 h
 refine zp1 rfl (zNSSR (zp3 rfl (zc 5 (hc1.below h.below) rfl (zp2 rfl (qb ?_)))))
 obtain ⟨o1, hF, hK1⟩ := qd hF
 refine qw (qP [(0, _), (4, _), (22, _), (23, _)] ⟨rfl, rfl, rfl, rfl, trivial⟩ ?_)
 refine qF (fun m e w' => ∃ (x2 : (List Int)) (i1 : Int), qaN a_0 y1 m x2 i1 = some o1 ∧ e = [(0, .pointer (some ⟨b1, o_1, none⟩)), (4, .slice p12 x1.length x1.length), (22, .int .i64 (y1.places.length : Int)), (23, .int .i64 i1)] ∧ SH w w' [Ch.own S1 (x2 : List Int) [.slice p12 x1.length x1.length]]) n ⟨_, _, hF, rfl, h⟩ ?_
 rintro m1 e1 w2 ⟨x2, i1, hF, rfl, h⟩
 rcases m1 with _ | m1
 ·rw [qaN] at hF
  cases hF
 rw [qaN] at hF
 refine zSR (zp1 rfl (zNS ?_))
 refine qu rfl hF ?_ ?_ <;> intro hF
 ·refine zKSBSR (zp2 rfl (zNSR (zp2 rfl ?_)))
  obtain ⟨r1, hr2, hF⟩ := qd hF
  refine qas r1 h call53 (qeF (h.old s1) hr2) rfl rfl rfl rfl ?_
  intro w3 S2 p13 k11 h
  refine zp2 rfl (qb ?_)
  obtain ⟨o2, hF, hK2⟩ := qd hF
  refine qw (qP [(0, _), (4, _), (22, _), (23, _), (28, _), (29, _), (30, _)] ⟨rfl, rfl, rfl, rfl, rfl, rfl, rfl, trivial⟩ ?_)
  refine qF (fun m e w' => ∃ (x3 : (List Int)) (i2 : Int), qaO r1 m x3 i2 = some o2 ∧ e = [(0, .pointer (some ⟨b1, o_1, none⟩)), (4, .slice p12 x1.length x1.length), (22, .int .i64 (y1.places.length : Int)), (23, .int .i64 i1), (28, .slice p13 r1.length k11), (29, .int .i64 (r1.length : Int)), (30, .int .i64 i2)] ∧ SH w w' [Ch.own S2 (r1 : List Int) [.slice p13 r1.length k11], Ch.own S1 (x3 : List Int) [.slice p12 x1.length x1.length]]) m1 ⟨_, _, hF, rfl, h⟩ ?_
  rintro m2 e2 w4 ⟨x3, i2, hF, rfl, h⟩
  rcases m2 with _ | m2
  ·rw [qaO] at hF
   cases hF
  rw [qaO] at hF
  refine zSR (zp1 rfl (zNS ?_))
  refine qu rfl hF ?_ ?_ <;> intro hF
  ·refine zKSBSR ?_
   obtain ⟨y2, hy2, hF⟩ := qd hF
   have he1 := qf hy2
   obtain ⟨b2, o_2, q1, cs3, hp1, hq1, -, hr3, hc4⟩ := (h.sl 0 rfl).1.at hy2
   obtain rfl := hr3
   refine zx hp1 hq1 ⟨he1.1, qY he1.2.1 (h.sl 0 rfl).2⟩ rfl (zc 0 hc4 rfl (zp1 rfl (qb (qA (zp2 rfl ?_)))))
   obtain ⟨y3, hy3, hF⟩ := qd hF
   have he2 := qf hy3
   obtain ⟨b3, o_3, q2, cs4, hp2, hq2, -, hr4, hc5⟩ := (h.sl 1 rfl).1.at hy3
   obtain rfl := hr4
   refine zx hp2 hq2 ⟨he2.1, qY he2.2.1 (h.sl 1 rfl).2⟩ rfl (zc 0 hc5 rfl (zp1 rfl ?_))
   obtain ⟨y4, hy4, hF⟩ := qd hF
   have he3 := qf hy4
   obtain ⟨b4, o_4, q3, cs5, hp3, hq3, -, hr5, hc6⟩ := (h.sl 1 rfl).1.at hy4
   obtain rfl := hr5
   refine zx hp3 hq3 ⟨he3.1, qY he3.2.1 (h.sl 1 rfl).2⟩ rfl (qcH qc 1 0 (W64 (y3 + 1)) h rfl hy4 hp3 hq3 rfl hc6 rfl rfl rfl rfl rfl rfl rfl ?_)
   intro w5 h
   exact zNER (zp2 rfl (qb (qx m2 [(0, _), (4, _), (22, _), (23, _), (28, _), (29, _), (30, _)] (Nat.lt_succ_self m2) ⟨rfl, rfl, rfl, rfl, rfl, rfl, rfl, trivial⟩ ⟨_, _, hF, rfl, h⟩)))
  refine qE rfl ?_
  obtain rfl := qh hF; replace hF := hK2
  refine qd1 (qA (zp2 rfl (qb ?_)))
  replace h := h.pick [1] rfl
  exact qx m1 [(0, _), (4, _), (22, _), (23, _)] (Nat.lt_succ_self m1) ⟨rfl, rfl, rfl, rfl, trivial⟩ ⟨_, _, hF, rfl, h⟩
 refine qE rfl ?_
 obtain rfl := qh hF; replace hF := hK1
 refine zSR (zp1 rfl (zNSSR (zp3 rfl (qb ?_))))
 replace h := h.nil (α := Int)
 obtain ⟨o3, hF, hK3⟩ := qd hF
 refine qw (qP [(0, _), (4, _), (8, _), (43, _), (44, _)] ⟨rfl, rfl, rfl, rfl, rfl, trivial⟩ ?_)
 refine qF (fun m e w' => ∃ (S3 : Nat → Prop) (p14 : Option Addr) (ln1 : Nat) (k12 : Nat) (x4 : (List Int)) (x5 : (List Int)) (i3 : Int), qap a_0 x1 m x4 x5 i3 = some o3 ∧ e = [(0, .pointer (some ⟨b1, o_1, none⟩)), (4, .slice p12 x1.length x1.length), (8, .slice p14 ln1 k12), (43, .int .i64 (x1.length : Int)), (44, .int .i64 i3)] ∧ SH w w' [Ch.own S3 (x4 : List Int) [.slice p14 ln1 k12], Ch.own S1 (x5 : List Int) [.slice p12 x1.length x1.length]]) n ⟨_, _, _, _, _, _, _, hF, rfl, h⟩ ?_
 rintro m3 e3 w6 ⟨S3, p14, ln1, k12, x4, x5, i3, hF, rfl, h⟩
 obtain rfl := (h.sl 0 rfl).2
 rcases m3 with _ | m3
 ·rw [qap] at hF
  cases hF
 rw [qap] at hF
 refine zSR (zp1 rfl (zNS ?_))
 refine qu rfl hF ?_ ?_ <;> intro hF
 ·refine zKSBSR (zp1 rfl ?_)
  obtain ⟨r2, hr6, hF⟩ := qd hF
  refine qT r2 h call91 (qjA (h.own 1 rfl) hr6) rfl rfl rfl rfl ?_
  intro w7 h
  refine zp1 rfl (zNSSR (zp2 rfl (qb ?_)))
  refine qu rfl hF ?_ ?_ <;> intro hF
  ·refine zSR (zp2 rfl (qb ?_))
   obtain rfl := qh hF; replace hF := hK3
   obtain rfl := qh hF
   exact qae qc (ρ := ((List Int) × Bool)) [GoT.v (List Int) [.slice none 0 0], GoT.v Bool [.bool false]] h ⟨rfl, rfl, trivial⟩ (PV.done h (qdr h qlF (qaf (qaj (S := fun _ => False) rfl)) (by rfl)))
  refine zKSR (zp2 rfl ?_)
  obtain ⟨y5, hy5, hF⟩ := qd hF
  have he4 := qf hy5
  obtain ⟨b5, o_5, q4, cs6, hp4, hq4, -, hr7, hc9⟩ := (h.sl 1 rfl).1.at hy5
  obtain rfl := hr7
  refine zx hp4 hq4 ⟨he4.1, qY he4.2.1 (h.sl 1 rfl).2⟩ rfl (qcH qc 1 0 (-1) h rfl hy5 hp4 hq4 rfl hc9 rfl rfl rfl rfl rfl rfl rfl ?_)
  intro w8 h
  refine zNSR (zp2 rfl (qat qc [.tmp 54] _ ([r2] : List Int) h rfl rfl rfl rfl rfl rfl rfl rfl rfl ⟨rfl, trivial⟩ rfl ?_))
  intro w9 p15 S4 h
  obtain ⟨x6, hx2, hF⟩ := qd hF
  obtain ⟨g3, hx2⟩ := qa4 hx2
  refine qdG qc 1 h rfl (h.sl 0 rfl).1 (h.sl 0 rfl).2 rfl rfl rfl rfl rfl rfl rfl rfl rfl g3 hx2 rfl ?_
  intro w10 p16 k13 S5 h
  refine zp1 rfl (zNSR (zp2 rfl ?_))
  obtain ⟨r3, hr8, hF⟩ := qd hF
  refine qas r3 h call53 (qeF (h.old s1) hr8) rfl rfl rfl rfl ?_
  intro w11 S6 p17 k14 h
  refine zp2 rfl (qb ?_)
  obtain ⟨o4, hF, hK4⟩ := qd hF
  refine qw ?_
  replace h := h.pick [0, 2, 3] rfl
  refine qP [(0, _), (4, _), (8, _), (43, _), (44, _), (59, _), (60, _), (61, _)] ⟨rfl, rfl, rfl, rfl, rfl, rfl, rfl, rfl, trivial⟩ ?_
  refine qF (fun m e w' => ∃ (x7 : (List Int)) (i4 : Int), qaP r3 m x7 i4 = some o4 ∧ e = [(0, .pointer (some ⟨b1, o_1, none⟩)), (4, .slice p12 x1.length x1.length), (8, .slice p16 x6.length k13), (43, .int .i64 (x1.length : Int)), (44, .int .i64 i3), (59, .slice p17 r3.length k14), (60, .int .i64 (r3.length : Int)), (61, .int .i64 i4)] ∧ SH w w' [Ch.own S6 (r3 : List Int) [.slice p17 r3.length k14], Ch.own S5 (x6 : List Int) [.slice p16 x6.length k13], Ch.own S1 (x7 : List Int) [.slice p12 x1.length x1.length]]) m3 ⟨_, _, hF, rfl, h⟩ ?_
  rintro m4 e4 w12 ⟨x7, i4, hF, rfl, h⟩
  rcases m4 with _ | m4
  ·rw [qaP] at hF
   cases hF
  rw [qaP] at hF
  refine zSR (zp1 rfl (zNS ?_))
  refine qu rfl hF ?_ ?_ <;> intro hF
  ·refine zKSBSR ?_
   obtain ⟨y6, hy6, hF⟩ := qd hF
   have he5 := qf hy6
   obtain ⟨b6, o_6, q5, cs7, hp5, hq5, -, hr9, hc11⟩ := (h.sl 0 rfl).1.at hy6
   obtain rfl := hr9
   refine zx hp5 hq5 ⟨he5.1, qY he5.2.1 (h.sl 0 rfl).2⟩ rfl (zc 0 hc11 rfl (zp1 rfl (qb (qA (zp2 rfl ?_)))))
   obtain ⟨y7, hy7, hF⟩ := qd hF
   have he6 := qf hy7
   obtain ⟨b7, o_7, q6, cs8, hp6, hq6, -, hr10, hc12⟩ := (h.sl 2 rfl).1.at hy7
   obtain rfl := hr10
   refine zx hp6 hq6 ⟨he6.1, qY he6.2.1 (h.sl 2 rfl).2⟩ rfl (zc 0 hc12 rfl (zp1 rfl ?_))
   obtain ⟨y8, hy8, hF⟩ := qd hF
   have he7 := qf hy8
   obtain ⟨b8, o_8, q7, cs9, hp7, hq7, -, hr11, hc13⟩ := (h.sl 2 rfl).1.at hy8
   obtain rfl := hr11
   refine zx hp7 hq7 ⟨he7.1, qY he7.2.1 (h.sl 2 rfl).2⟩ rfl (qcH qc 2 0 (W64 (y7 - 1)) h rfl hy8 hp7 hq7 rfl hc13 rfl rfl rfl rfl rfl rfl rfl ?_)
   intro w13 h
   exact zNER (zp2 rfl (qb (qx m4 [(0, _), (4, _), (8, _), (43, _), (44, _), (59, _), (60, _), (61, _)] (Nat.lt_succ_self m4) ⟨rfl, rfl, rfl, rfl, rfl, rfl, rfl, rfl, trivial⟩ ⟨_, _, hF, rfl, h⟩)))
  refine qE rfl ?_
  obtain rfl := qh hF; replace hF := hK4
  refine qd1 (qA (zp2 rfl (qb ?_)))
  replace h := h.pick [1, 2] rfl
  exact qx m3 [(0, _), (4, _), (8, _), (43, _), (44, _)] (Nat.lt_succ_self m3) ⟨rfl, rfl, rfl, rfl, rfl, trivial⟩ ⟨_, _, _, _, _, _, _, hF, rfl, h⟩
 refine qE rfl ?_
 obtain rfl := qh hF; replace hF := hK3
 refine zSR (zp3 rfl (qb ?_))
 obtain rfl := qh hF
 exact qae qc (ρ := ((List Int) × Bool)) [GoT.v (List Int) [.slice p14 x4.length k12], GoT.v Bool [.bool true]] h ⟨rfl, rfl, trivial⟩ (PV.done h (qdr h (qaC 0 h rfl) (qaf (qaj (S := fun _ => False) rfl)) (by rfl)))

end Go.Fw
