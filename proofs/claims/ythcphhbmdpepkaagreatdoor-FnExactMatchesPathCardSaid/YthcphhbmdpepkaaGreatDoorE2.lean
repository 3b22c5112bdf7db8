/- Plain laws: the places of a design, one by one. -/
import Derived.Test.YthcphhbmdpepkaaGreatDoorB7
import Derived.Test.YthcphhbmdpepkaaGreatDoorFw33

namespace Go.Fw
open Go
set_option maxRecDepth 100000

def off (d : qk) (i : Nat) : Nat := (plI d i).length
def place1 (d : qk) (i k : Nat) : Tplace := ⟨(i : Int), (k : Int), at0 (gt d.Instances i).Nets k, decide (k + 1 = (gt d.Instances i).Nets.length)⟩
def place2 (d : qk) (i : Nat) : Tplace := ⟨-1, (i : Int), (gt d.Ports i).Net, (gt d.Ports i).Dir == 1⟩

theorem qj4 {d : qk} {i : Nat} : off d (i + 1) = off d i + (gt d.Instances i).Nets.length := by
  unfold off; rw [qjl, List.length_append, qlc]
theorem qh6 {d : qk} : (places d).length = off d d.Instances.length + d.Ports.length := by
  unfold places off; rw [List.length_append, qlb]
theorem qqU {d : qk} {n i k : Nat} (hi : i < n) (hk : k < (gt d.Instances i).Nets.length) : off d i + k < off d n ∧ gt (plI d n) (off d i + k) = place1 d i k := by
  induction n with
  | zero => omega
  | succ n ih =>
    rw [qjl, qki]
    rcases Nat.lt_succ_iff_lt_or_eq.1 hi with h | rfl
    · obtain ⟨h1, h2⟩ := ih h
      refine ⟨by rw [qj4]; omega, ?_⟩
      rw [if_pos (show off d i + k < (plI d n).length from h1), h2]
    · refine ⟨by rw [qj4]; omega, ?_⟩
      rw [if_neg (by unfold off; omega), show off d i + k - (plI d i).length = k by unfold off; omega]
      exact qnc hk
theorem qjo {d : qk} {i k : Nat} (hi : i < d.Instances.length) (hk : k < (gt d.Instances i).Nets.length) : off d i + k < (places d).length ∧ gt (places d) (off d i + k) = place1 d i k := by
  obtain ⟨h1, h2⟩ := qqU hi hk
  refine ⟨by rw [qh6]; omega, ?_⟩
  unfold places
  rw [qki, if_pos (show off d i + k < (plI d d.Instances.length).length from h1), h2]
theorem qmz {d : qk} {i : Nat} (hi : i < d.Ports.length) : off d d.Instances.length + i < (places d).length ∧ gt (places d) (off d d.Instances.length + i) = place2 d i := by
  refine ⟨by rw [qh6]; omega, ?_⟩
  unfold places
  rw [qki, if_neg (by unfold off; omega), show off d d.Instances.length + i - (plI d d.Instances.length).length = i by unfold off; omega]
  exact qnc hi
theorem qo9 {d : qk} {n j : Nat} (hj : j < off d n) : ∃ i k, i < n ∧ k < (gt d.Instances i).Nets.length ∧ j = off d i + k := by
  induction n with
  | zero => exact absurd hj (Nat.not_lt_zero _)
  | succ n ih =>
    by_cases h : j < off d n
    · obtain ⟨i, k, h1, h2, h3⟩ := ih h
      exact ⟨i, k, by omega, h2, h3⟩
    · rw [qj4] at hj
      exact ⟨n, j - off d n, by omega, by omega, by omega⟩
/-- Every place is a pin of an instance or a port. -/
theorem qgi {d : qk} {j : Nat} (hj : j < (places d).length) :
    (∃ i k, i < d.Instances.length ∧ k < (gt d.Instances i).Nets.length ∧ j = off d i + k ∧ gt (places d) j = place1 d i k) ∨
    (∃ i, i < d.Ports.length ∧ j = off d d.Instances.length + i ∧ gt (places d) j = place2 d i) := by
  rw [qh6] at hj
  by_cases h : j < off d d.Instances.length
  · obtain ⟨i, k, h1, h2, rfl⟩ := qo9 h
    exact .inl ⟨i, k, h1, h2, rfl, (qjo h1 h2).2⟩
  · refine .inr ⟨j - off d d.Instances.length, by omega, by omega, ?_⟩
    have := (qmz (d := d) (i := j - off d d.Instances.length) (by omega)).2
    rwa [show off d d.Instances.length + (j - off d d.Instances.length) = j by omega] at this

/-! ### Drivers -/

def drvQ (d : qk) (k : Int) (j : Nat) : Bool := ((gt (places d) j).net == k) && (gt (places d) j).drives

theorem qnj {q : Nat → Bool} {m n : Nat} : cntP q (m + n) = cntP q m + cntP (fun j => q (m + j)) n := by
  induction n with
  | zero => rfl
  | succ n ih =>
    show cntP q (m + n) + (bif q (m + n) then 1 else 0) = cntP q m + (cntP (fun j => q (m + j)) n + (bif q (m + n) then 1 else 0))
    rw [ih]; omega
theorem qoV {q : Nat → Bool} {n : Nat} {b : Bool} (h : 1 ≤ n) (h1 : ∀ j, j + 1 < n → q j = false) (h2 : q (n - 1) = b) : cntP q n = bif b then 1 else 0 := by
  obtain ⟨m, rfl⟩ : ∃ m, n = m + 1 := ⟨n - 1, by omega⟩
  show cntP q m + (bif q m then 1 else 0) = _
  rw [qmB.2 (fun j hj => h1 j (by omega)), show m = m + 1 - 1 by omega, h2, Nat.zero_add]

theorem qnX {d : qk} {k : Nat} (hs : smallD d) : cntP (drvQ d (k : Int)) (places d).length = drvI d k d.Instances.length + drvP d k d.Ports.length := by
  rw [qh6, qnj]
  congr 1
  · have : ∀ n, n ≤ d.Instances.length → cntP (drvQ d (k : Int)) (off d n) = drvI d k n := by
      intro n
      induction n with
      | zero => intro _; rfl
      | succ n ih =>
        intro hn
        rw [qj4, qnj, ih (by omega), qkq]
        congr 1
        have h2 := (hs.nx n (by omega)).1
        refine qoV (by omega) (fun j hj => ?_) ?_
        · show drvQ d _ (off d n + j) = false
          unfold drvQ
          rw [(qjo (by omega) (by omega)).2]
          unfold place1
          simp; omega
        · show drvQ d _ (off d n + _) = _
          unfold drvQ
          rw [(qjo (by omega) (by omega)).2]
          unfold place1 lastN
          simp; omega
    exact this _ (Nat.le_refl _)
  · refine qoe (fun j hj => ?_)
    show drvQ d _ (off d _ + j) = _
    unfold drvQ
    rw [(qmz hj).2]
    unfold place2
    exact Bool.and_comm _ _

theorem qoC {l : qt} {d : qk} (h : designB l d = true) {k : Nat} (hk : k < d.Nets.length) : cntP (drvQ d (k : Int)) (places d).length = 1 := by
  rw [qnX (qaW h)]
  unfold designB drvB at h
  simp only [Bool.and_eq_true] at h
  have := qaQ.1 h.2.2.2 k hk
  rw [beq_iff_eq] at this
  omega
theorem qnb {l : qt} {d : qk} (h : designB l d = true) {i j : Nat} (hi : i < (places d).length) (hj : j < (places d).length) (he : (gt (places d) i).net = (gt (places d) j).net) (h1 : (gt (places d) i).drives = true) (h2 : (gt (places d) j).drives = true) : i = j := by
  obtain ⟨n0, n1⟩ := qiL h hi
  have e := qjS n0
  have := qoC h (k := (gt (places d) i).net.toNat) (by omega)
  refine qnJ (Nat.le_of_eq this) hi hj ?_ ?_
  · unfold drvQ; rw [← e, h1]; simp
  · unfold drvQ; rw [← e, h2, he]; simp
theorem qqV {l : qt} {d : qk} (h : designB l d = true) {k : Int} (h0 : 0 ≤ k) (h1 : k < d.Nets.length) : ∃ j, j < (places d).length ∧ (gt (places d) j).net = k ∧ (gt (places d) j).drives = true := by
  have e := qjS h0
  have := qoC h (k := k.toNat) (by omega)
  have hp : decide (0 < cntP (drvQ d ((k.toNat : Nat) : Int)) (places d).length) = true := by rw [this]; rfl
  rw [qnE, Bool.not_eq_true', qiH] at hp
  obtain ⟨j, hj, hq⟩ := hp
  rw [Bool.not_eq_false', ← e] at hq
  unfold drvQ at hq
  simp only [Bool.and_eq_true, beq_iff_eq] at hq
  exact ⟨j, hj, hq.1, hq.2⟩

/-! ### Cells of instances -/

def cellAt (b : qy) (i : Int) : qD := gt b.Library.Cells (gt b.Design.Instances i.toNat).Cell.toNat
theorem qhC {l : qt} {d : qk} (h : designB l d = true) {i : Nat} (hi : i < d.Instances.length) :
    (0 ≤ (gt d.Instances i).Cell ∧ (gt d.Instances i).Cell < l.Cells.length) ∧ (gt d.Instances i).Nets.length = (gt l.Cells (gt d.Instances i).Cell.toNat).Pins.length ∧ cellB (gt l.Cells (gt d.Instances i).Cell.toNat) = true := by
  unfold designB libB at h
  simp only [Bool.and_eq_true] at h
  obtain ⟨⟨⟨hc, _⟩, _⟩, hI, _⟩ := h
  rw [qhq, qaQ] at hI hc
  have := hI i hi
  unfold instB at this
  simp only [Bool.and_eq_true, qcP, beq_iff_eq] at this
  exact ⟨⟨this.1.1, by omega⟩, by omega, hc _ (by omega)⟩
theorem qnD {c : qD} (h : cellB c = true) {j : Nat} (hj : j < c.Arcs.length) : (1 ≤ (gt c.Arcs j).Kind ∧ (gt c.Arcs j).Kind ≤ 5) ∧ (0 ≤ (gt c.Arcs j).From ∧ (gt c.Arcs j).From < (c.Pins.length : Int) - 1) ∧ (0 ≤ (gt c.Arcs j).To ∧ (gt c.Arcs j).To ≤ (c.Pins.length : Int) - 1) ∧ arcS c.Pins (gt c.Arcs j) = true := by
  unfold cellB at h
  simp only [Bool.and_eq_true] at h
  obtain ⟨_, hp, ⟨ha, _⟩, _, _, hk⟩ := h
  have := qaQ.1 ha j hj
  rw [Bool.and_eq_true, qpL hp (qmw hk)] at this
  have h1 := this.1
  refine ⟨qmG h1, ?_⟩
  have h2 := h1
  unfold arcS at h2
  simp only [Bool.and_eq_true, qcP] at h2
  refine ⟨⟨h2.1.1.1, by omega⟩, h2.1.2, h1⟩
theorem qjJ {c : qD} (h : cellB c = true) : c.Arcs.length ≤ 8 := by
  unfold cellB at h
  simp only [Bool.and_eq_true, decide_eq_true_eq] at h
  exact h.2.2.1.2
theorem qbJ {b : qy} (h : blockB b = true) : designB b.Library b.Design = true := by
  unfold blockB at h; simp only [Bool.and_eq_true] at h; exact h.1.1
end Go.Fw


namespace Go.Fw
open Go Go.Proofs
open Go.RowKit (Below)
set_option maxRecDepth 100000
def qf7 (n : Nat) (l : qt) (d : qk) (place : Int) : Option (Tl05Place × Bool) :=
 (qfe n l d).bind fun r1 =>
 bif (!r1) then
  some ((⟨0, 0, 0, false⟩ : Tl05Place), false)
 else
  (qcD n d).bind fun r2 =>
  (qam n place 0 (W64 ((r2.length : Int) - 1))).bind fun r3 =>
  bif (!r3) then
   some ((⟨0, 0, 0, false⟩ : Tl05Place), false)
  else
   (idx r2 place).bind fun y1 =>
   some (y1, true)

theorem qib {n : Nat} {w : World} {l : qt} {d : qk} {place : Int} {cs1 : List Value} (ha1 : GoT.R w (old w) l cs1) {cs2 : List Value} (ha2 : GoT.R w (old w) d cs2) {r : (Tl05Place × Bool)} (hF : qf7 n l d place = some r) : RetV Tryz.prog 94 [GoT.v qt cs1, GoT.v qk cs2, .int .i64 place] w r := by
 obtain ⟨p1, k1, rfl, s1⟩ := qbu ha1
 obtain ⟨p2, k2, p3, k3, p4, k4, rfl, s2, s3, s4⟩ := qan ha2
 refine qe Tryz.func94 rfl (m := 27) rfl rfl (fun h => ?_)
 rw [qf7] at hF
 refine zSR (qM h rfl rfl ?_)
 intro w1 bb1 h
 refine qM h rfl rfl ?_
 intro w2 bb2 h
 refine qU qc h rfl rfl rfl ?_
 intro w3 bb3 h
 refine zp1 rfl (zNSSR (zl 2 0 h rfl (zl 1 0 h rfl ?_)))
 obtain ⟨r1, hr1, hF⟩ := qd hF
 refine ql r1 h call67 (qix (h.old ha1) (h.old ha2) hr1) rfl rfl rfl rfl ?_
 intro w4 h
 refine zp1 rfl (qb ?_)
 refine qq rfl hF ?_ ?_ <;> intro hF
 ·refine zSR (r_v (qgr qc [] [] rfl rfl rfl rfl rfl rfl rfl rfl) rfl (zs 0 h rfl ?_))
  intro w5 h
  refine zp1 rfl (qb ?_)
  obtain rfl := qj hF
  exact qap qc (ρ := (Tl05Place × Bool)) [GoT.v Tl05Place [.int .i64 0, .int .i64 0, .int .i64 0, .bool false], GoT.v Bool [.bool false]] h ⟨⟨_, _, _, rfl, rfl, h.box 0 rfl, rfl⟩, rfl, trivial⟩ (PV.done h (qha h (qbl (S := fun _ => False) (qf1 (⟨0, 0, 0, false⟩ : Tl05Place))) (qav (qbl (S := fun _ => False) rfl)) (by rfl)))
 refine zKSR (zl 1 0 h rfl ?_)
 obtain ⟨r2, hr2, hF⟩ := qd hF
 refine qak r2 h call93 (qek (h.old ha2) hr2) rfl rfl rfl rfl ?_
 intro w6 S1 p5 k5 h
 refine zp1 rfl (zNSSR (zp4 rfl ?_))
 obtain ⟨r3, hr3, hF⟩ := qd hF
 refine ql r3 h call35 (qaf hr3) rfl rfl rfl rfl ?_
 intro w7 h
 refine zp1 rfl (qb ?_)
 refine qq rfl hF ?_ ?_ <;> intro hF
 ·refine zSR (r_v (qgr qc [] [] rfl rfl rfl rfl rfl rfl rfl rfl) rfl (zs 1 h rfl ?_))
  intro w8 h
  replace h : SH _ _ [Ch.own S1 (r2 : List Tl05Place) [.slice p5 r2.length k5], Ch.box bb3 [.int .i64 0, .int .i64 0, .int .i64 0, .bool false] 144, Ch.box bb2 [.slice p2 d.Instances.length k2, .slice p3 d.Nets.length k3, .slice p4 d.Ports.length k4] 45, Ch.box bb1 [.slice p1 l.Cells.length k1] 41] := h
  refine zp1 rfl (qb ?_)
  obtain rfl := qj hF
  exact qap qc (ρ := (Tl05Place × Bool)) [GoT.v Tl05Place [.int .i64 0, .int .i64 0, .int .i64 0, .bool false], GoT.v Bool [.bool false]] h ⟨⟨_, _, _, rfl, rfl, h.box 1 rfl, rfl⟩, rfl, trivial⟩ (PV.done h (qha h (qbl (S := fun _ => False) (qf1 (⟨0, 0, 0, false⟩ : Tl05Place))) (qav (qbl (S := fun _ => False) rfl)) (by rfl)))
 refine zKSR (zp2 rfl ?_)
 obtain ⟨y1, hy1, hF⟩ := qd hF
 have he1 := qg hy1
 obtain ⟨b1, o_1, q1, cs3, hp1, hq1, -, hr4, hc3⟩ := (h.sl 0 rfl).1.at hy1
 obtain rfl := qci hr4
 refine zx hp1 hq1 ⟨he1.1, qa0 he1.2.1 (h.sl 0 rfl).2⟩ rfl (zc 0 hc3 rfl (zs 1 h rfl ?_))
 intro w9 h
 refine zp1 rfl (qb ?_)
 obtain rfl := qj hF
 exact qap qc (ρ := (Tl05Place × Bool)) [GoT.v Tl05Place [.int .i64 y1.instance_, .int .i64 y1.pin, .int .i64 y1.net, .bool y1.drives], GoT.v Bool [.bool true]] h ⟨⟨_, _, _, rfl, rfl, h.box 1 rfl, rfl⟩, rfl, trivial⟩ (PV.done h (qha h (qbl (S := fun _ => False) (qf1 y1)) (qav (qbl (S := fun _ => False) rfl)) (by rfl)))

def qe1 (_ : Nat) (b : qy) (a_instance : Int) : Option qD :=
 (idx b.Design.Instances a_instance).bind fun y1 =>
 (idx b.Library.Cells y1.Cell).bind fun y2 =>
 some y2

theorem qiO {n : Nat} {w : World} {A : Nat → Prop} (hA : ∀ b, A b → old w b) {b : qy} {a_instance : Int} {cs1 : List Value} (ha1 : GoT.R w A b cs1) {r : qD} (hF : qe1 n b a_instance = some r) : RetG Tryz.prog 98 [GoT.v qy cs1, .int .i64 a_instance] w A r := by
 obtain ⟨p1, k1, p2, k2, p3, k3, p4, k4, p5, k5, rfl, s1, s2, s3, s4, s5⟩ := qas ha1
 have hg := Rg.start hA
 refine qi7 Tryz.func98 rfl (m := 17) rfl rfl (fun h => ?_)
 rw [qe1] at hF
 refine zSR (qM h rfl rfl ?_)
 intro w1 bb1 h
 refine qU qc h rfl rfl rfl ?_
 intro w2 bb2 h
 refine zNS ?_
 refine qeO [] (fun w' => SH w w' [Ch.box bb1 [.slice p1 b.Library.Cells.length k1, .slice p2 b.Design.Instances.length k2, .slice p3 b.Design.Nets.length k3, .slice p4 b.Design.Ports.length k4, .slice p5 b.Wires.length k5] 48]) rfl 13 rfl #[ff, ff, ff, ff, ff, ff, ff, ff, ff, ff, ff, ff, ff] (by kernel_rfl) (fun w3 hb => ?_)
 replace h := h.ext hb
 clear hb
 refine qi 0 rfl #[tt, ff, ff, ff, ff, ff, ff, ff, ff, ff, ff, ff, ff] (by kernel_rfl) (by kernel_rfl) (fun w' hw => v_p qc rfl w') (h.pick [1] rfl) rfl ?_
 refine qi 1 rfl #[tt, tt, ff, ff, ff, ff, ff, ff, ff, ff, ff, ff, ff] (by kernel_rfl) (by kernel_rfl) (fun w' hw => v_p qc rfl w') (h.pick [1] rfl) rfl ?_
 refine qi 2 rfl #[tt, tt, tt, ff, ff, ff, ff, ff, ff, ff, ff, ff, ff] (by kernel_rfl) (by kernel_rfl) (fun w' hw => qbj qc (hw.box 0 rfl) (j := 0) rfl rfl rfl) (h.pick [1] rfl) rfl ?_
 refine qi 3 rfl #[tt, tt, tt, tt, ff, ff, ff, ff, ff, ff, ff, ff, ff] (by kernel_rfl) (by kernel_rfl) (fun w' hw => v_p qc rfl w') (h.pick [1] rfl) rfl ?_
 refine qi 4 rfl #[tt, tt, tt, tt, tt, ff, ff, ff, ff, ff, ff, ff, ff] (by kernel_rfl) (by kernel_rfl) (fun w' hw => v_p qc rfl w') (h.pick [1] rfl) rfl ?_
 refine qi 5 rfl #[tt, tt, tt, tt, tt, tt, ff, ff, ff, ff, ff, ff, ff] (by kernel_rfl) (by kernel_rfl) (fun w' hw => qbj qc (hw.box 0 rfl) (j := 1) rfl rfl rfl) (h.pick [1] rfl) rfl ?_
 refine qi 6 rfl #[tt, tt, tt, tt, tt, tt, tt, ff, ff, ff, ff, ff, ff] (by kernel_rfl) (by kernel_rfl) (fun w' hw => v_p qc rfl w') (h.pick [1] rfl) rfl ?_
 obtain ⟨y1, hy1, hF⟩ := qd hF
 have he1 := qg hy1
 obtain ⟨b1, o_1, q1, cs2, hp1, hq1, -, hr1, hc1⟩ := s2.at hy1
 obtain ⟨p6, k6, rfl, s6⟩ := qX hr1
 refine qi 7 rfl #[tt, tt, tt, tt, tt, tt, tt, tt, ff, ff, ff, ff, ff] (by kernel_rfl) (by kernel_rfl) (fun w' hw => qe3 qc hp1 hq1 ⟨he1.1, he1.2.1⟩ rfl rfl rfl rfl rfl rfl) (h.pick [1] rfl) rfl ?_
 refine qi 8 rfl #[tt, tt, tt, tt, tt, tt, tt, tt, tt, ff, ff, ff, ff] (by kernel_rfl) (by kernel_rfl) (fun w' hw => v_p qc rfl w') (h.pick [1] rfl) rfl ?_
 refine qi 9 rfl #[tt, tt, tt, tt, tt, tt, tt, tt, tt, tt, ff, ff, ff] (by kernel_rfl) (by kernel_rfl) (fun w' hw => qbj qc (hc1.below hw.below) (j := 1) rfl rfl rfl) (h.pick [1] rfl) rfl ?_
 obtain ⟨y2, hy2, hF⟩ := qd hF
 have he2 := qg hy2
 obtain ⟨b2, o_2, q2, cs3, hp2, hq2, -, hr2, hc2⟩ := s1.at hy2
 obtain ⟨p7, k7, p8, k8, p9, k9, rfl, s7, s8, s9⟩ := qV hr2
 refine qi 10 rfl #[tt, tt, tt, tt, tt, tt, tt, tt, tt, tt, tt, ff, ff] (by kernel_rfl) (by kernel_rfl) (fun w' hw => qe3 qc hp2 hq2 ⟨he2.1, he2.2.1⟩ rfl rfl rfl rfl rfl rfl) (h.pick [1] rfl) rfl ?_
 refine qi 11 rfl #[tt, tt, tt, tt, tt, tt, tt, tt, tt, tt, tt, tt, ff] (by kernel_rfl) (by kernel_rfl) (fun w' hw => qbj qc (hc2.below hw.below) (j := 0) rfl rfl rfl) (h.pick [1] rfl) rfl ?_
 refine qab 12 rfl #[tt, tt, tt, tt, tt, tt, tt, tt, tt, tt, tt, tt, tt] (by kernel_rfl) (by kernel_rfl) ?_
 refine zs 0 h rfl ?_
 intro w4 h
 replace h : SH _ _ [Ch.box bb2 [.string y2.Name, .int .i64 y2.Kind, .slice p7 y2.Pins.length k7, .slice p8 y2.Arcs.length k8, .slice p9 y2.Truth.length k9, .int .i64 y2.Leak, .int .i64 y2.Energy] 155, Ch.box bb1 [.slice p1 b.Library.Cells.length k1, .slice p2 b.Design.Instances.length k2, .slice p3 b.Design.Nets.length k3, .slice p4 b.Design.Ports.length k4, .slice p5 b.Wires.length k5] 48] := h
 refine qW (fun _ => (h.pick [1] rfl)) ?_
 refine qcp (by kernel_rfl) ?_
 obtain rfl := qj hF
 have hv1 : GoRs.Rs _ (reg A w _) y2 [GoT.v qD [.string y2.Name, .int .i64 y2.Kind, .slice p7 y2.Pins.length k7, .slice p8 y2.Arcs.length k8, .slice p9 y2.Truth.length k9, .int .i64 y2.Leak, .int .i64 y2.Energy]] := ⟨_, rfl, (hg.outR h (qgg y2 (hg.inS h s7) (hg.inS h s8) (hg.inS h s9)))⟩
 exact qom qc (ρ := qD) (r := y2) [GoT.v qD [.string y2.Name, .int .i64 y2.Kind, .slice p7 y2.Pins.length k7, .slice p8 y2.Arcs.length k8, .slice p9 y2.Truth.length k9, .int .i64 y2.Leak, .int .i64 y2.Energy]] h ⟨⟨_, _, _, rfl, rfl, h.box 0 rfl, rfl⟩, trivial⟩ hv1

def qfW (n : Nat) (b : qy) (place : Int) : Option Bool :=
 (qf7 n (⟨b.Library.Cells⟩ : qt) (⟨b.Design.Instances, b.Design.Nets, b.Design.Ports⟩ : qk) place).bind fun o => match o with
  | (r2, _) =>
   bif decide (r2.instance_ ≥ 0) then
    (qe1 n b r2.instance_).bind fun r4 =>
    (idx r4.Pins r2.pin).bind fun y1 =>
    some y1.Clock
   else
    some false

theorem qkz {n : Nat} {w : World} {b : qy} {place : Int} {cs1 : List Value} (ha1 : GoT.R w (old w) b cs1) {r : Bool} (hF : qfW n b place = some r) : RetV Tryz.prog 95 [GoT.v qy cs1, .int .i64 place] w r := by
 obtain ⟨p1, k1, p2, k2, p3, k3, p4, k4, p5, k5, rfl, s1, s2, s3, s4, s5⟩ := qas ha1
 refine qe Tryz.func95 rfl (m := 31) rfl rfl (fun h => ?_)
 rw [qfW] at hF
 refine zSR (qM h rfl rfl ?_)
 intro w1 bb1 h
 refine zp1 rfl (zNSR (zp1 rfl (zl 0 0 h rfl (zp1 rfl (zl 0 1 h rfl (zp1 rfl ?_))))))
 obtain ⟨r1, hr1, hF⟩ := qd hF
 obtain ⟨r2, r3⟩ := r1
 refine qie (r2, r3) h call94 (qib (qdc (⟨b.Library.Cells⟩ : qt) (h.oldS s1)) (qba (⟨b.Design.Instances, b.Design.Nets, b.Design.Ports⟩ : qk) (h.oldS s2) (h.oldS s3) (h.oldS s4)) hr1) rfl rfl rfl rfl ?_
 intro w2 S1 us1 hv1 hr2
 obtain ⟨S2, S3, cs2, us2, rfl, hv2, hr3⟩ := hv1.cons hr2
 obtain rfl := qci (hv2.sh.own 0 rfl)
 obtain ⟨rfl, h⟩ := hv2.lastB hr3
 refine zp3 rfl (qU qc h rfl rfl rfl ?_)
 intro w3 bb2 h
 refine zs 0 h rfl ?_
 intro w4 h
 refine zp1 rfl (zNS ?_)
 refine qeO [] (fun w' => SH w w' [Ch.box bb2 [.int .i64 r2.instance_, .int .i64 r2.pin, .int .i64 r2.net, .bool r2.drives] 144, Ch.box bb1 [.slice p1 b.Library.Cells.length k1, .slice p2 b.Design.Instances.length k2, .slice p3 b.Design.Nets.length k3, .slice p4 b.Design.Ports.length k4, .slice p5 b.Wires.length k5] 48]) rfl 16 rfl #[ff, ff, ff, ff, ff, ff, ff, ff, ff, ff, ff, ff, ff, ff, ff, ff] (by kernel_rfl) (fun w5 hb => ?_)
 replace h := h.ext hb
 clear hb
 refine qi 0 rfl #[tt, ff, ff, ff, ff, ff, ff, ff, ff, ff, ff, ff, ff, ff, ff, ff] (by kernel_rfl) (by kernel_rfl) (fun w' hw => v_p qc rfl w') (h.pick [0, 2] rfl) rfl ?_
 refine qi 1 rfl #[tt, tt, ff, ff, ff, ff, ff, ff, ff, ff, ff, ff, ff, ff, ff, ff] (by kernel_rfl) (by kernel_rfl) (fun w' hw => qbj qc (hw.box 0 rfl) (j := 0) rfl rfl rfl) (h.pick [0, 2] rfl) rfl ?_
 refine qi 2 rfl #[tt, tt, tt, ff, ff, ff, ff, ff, ff, ff, ff, ff, ff, ff, ff, ff] (by kernel_rfl) (by kernel_rfl) (fun w' hw => v_p qc rfl w') (h.pick [0, 2] rfl) rfl ?_
 refine qi 3 rfl #[tt, tt, tt, tt, ff, ff, ff, ff, ff, ff, ff, ff, ff, ff, ff, ff] (by kernel_rfl) (by kernel_rfl) (fun w' hw => v_p qc rfl w') (h.pick [0, 2] rfl) rfl ?_
 by_cases hc1 : (decide (r2.instance_ ≥ 0)) = true
 ·replace hF := bifT hc1 hF
  refine qlx hc1 (t := 19) rfl ?_
  refine qbc 4 rfl (by kernel_rfl) #[tt, tt, tt, tt, tt, ff, ff, ff, ff, ff, ff, ff, ff, ff, ff, ff] (by kernel_rfl) (by kernel_rfl) (fun w' hw => qbj qc (hw.box 1 rfl) (j := 0) rfl rfl rfl) (h.pick [0, 2] rfl) rfl ?_
  refine qbc 5 rfl (by kernel_rfl) #[tt, tt, tt, tt, tt, tt, ff, ff, ff, ff, ff, ff, ff, ff, ff, ff] (by kernel_rfl) (by kernel_rfl) (fun w' hw => v_p qc rfl w') (h.pick [0, 2] rfl) rfl ?_
  refine qbc 6 rfl (by kernel_rfl) #[tt, tt, tt, tt, tt, tt, tt, ff, ff, ff, ff, ff, ff, ff, ff, ff] (by kernel_rfl) (by kernel_rfl) (fun w' hw => qbj qc (hw.box 0 rfl) (j := 0) rfl rfl rfl) (h.pick [0, 2] rfl) rfl ?_
  refine qbc 9 rfl (by kernel_rfl) #[tt, tt, tt, tt, tt, tt, tt, ff, ff, tt, ff, ff, ff, ff, ff, ff] (by kernel_rfl) (by kernel_rfl) (fun w' hw => v_p qc rfl w') (h.pick [0, 2] rfl) rfl ?_
  refine qbc 10 rfl (by kernel_rfl) #[tt, tt, tt, tt, tt, tt, tt, ff, ff, tt, tt, ff, ff, ff, ff, ff] (by kernel_rfl) (by kernel_rfl) (fun w' hw => qbj qc (hw.box 0 rfl) (j := 1) rfl rfl rfl) (h.pick [0, 2] rfl) rfl ?_
  refine qab 7 rfl #[tt, tt, tt, tt, tt, tt, tt, tt, ff, tt, tt, ff, ff, ff, ff, ff] (by kernel_rfl) (by kernel_rfl) ?_
  refine qa rfl ?_
  have hg1 : Rg (old w) w (old w) w := .start (fun _ h => h)
  obtain ⟨r4, hr5, hF⟩ := qd hF
  refine qla r4 hg1 h call98 (qiO (hg1.atB h) (hg1.inBR h ha1) hr5) rfl rfl rfl rfl ?_
  intro w6 us3 S5 h hv4
  obtain ⟨cs3, rfl, hr6⟩ := qlA hv4
  have hr7 := hr6
  obtain ⟨p6, k6, p7, k7, p8, k8, rfl, s6, s7, s8⟩ := qV hr6
  replace h := h.grpAdd 0 rfl hr7
  refine qW (fun _ => (h.pick [1, 3] rfl)) ?_
  refine qbc 8 rfl (by kernel_rfl) #[tt, tt, tt, tt, tt, tt, tt, tt, tt, tt, tt, ff, ff, ff, ff, ff] (by kernel_rfl) (by kernel_rfl) (fun w' hw => v_p qc rfl w') (h.pick [1, 3] rfl) rfl ?_
  obtain ⟨y1, hy1, hF⟩ := qd hF
  have he1 := qg hy1
  obtain ⟨b1, o_1, q1, cs4, hp1, hq1, -, hr8, hc2⟩ := (qgR (h.grp 0 0 rfl rfl)).1.1.at hy1
  obtain rfl := qbq hr8
  refine qbc 11 rfl (by kernel_rfl) #[tt, tt, tt, tt, tt, tt, tt, tt, tt, tt, tt, tt, ff, ff, ff, ff] (by kernel_rfl) (by kernel_rfl) (fun w' hw => qe3 qc hp1 hq1 ⟨he1.1, qa0 he1.2.1 (qgR (h.grp 0 0 rfl rfl)).1.2⟩ rfl rfl rfl rfl rfl rfl) (h.pick [1, 3] rfl) rfl ?_
  refine qbc 12 rfl (by kernel_rfl) #[tt, tt, tt, tt, tt, tt, tt, tt, tt, tt, tt, tt, tt, ff, ff, ff] (by kernel_rfl) (by kernel_rfl) (fun w' hw => v_p qc rfl w') (h.pick [1, 3] rfl) rfl ?_
  refine qab 13 rfl #[tt, tt, tt, tt, tt, tt, tt, tt, tt, tt, tt, tt, tt, tt, ff, ff] (by kernel_rfl) (by kernel_rfl) ?_
  refine qa rfl (zc 3 hc2 rfl ?_)
  refine qW (fun _ => (h.pick [1, 3] rfl)) ?_
  refine qi 14 rfl #[tt, tt, tt, tt, tt, tt, tt, tt, tt, tt, tt, tt, tt, tt, tt, ff] (by kernel_rfl) (by kernel_rfl) (fun w' hw => v_p qc rfl w') (h.pick [1, 3] rfl) rfl ?_
  refine qi 15 rfl #[tt, tt, tt, tt, tt, tt, tt, tt, tt, tt, tt, tt, tt, tt, tt, tt] (by kernel_rfl) (by kernel_rfl) (fun w' hw => v_p qc rfl w') (h.pick [1, 3] rfl) rfl ?_
  refine qcp (by kernel_rfl) ?_
  replace h := h.pick [1, 2, 3] rfl
  exact qu qc h hF ⟨rfl, trivial⟩
 replace hc1 := zb hc1
 replace hF := bifF hc1 hF
 refine qlo hc1 (t := 19) rfl ?_
 refine qaF 4 rfl (by kernel_rfl) rfl #[tt, tt, tt, tt, tt, ff, ff, ff, ff, ff, ff, ff, ff, ff, ff, ff] (by kernel_rfl) (by kernel_rfl) (h.pick [0, 2] rfl) rfl ?_
 refine qaF 5 rfl (by kernel_rfl) rfl #[tt, tt, tt, tt, tt, tt, ff, ff, ff, ff, ff, ff, ff, ff, ff, ff] (by kernel_rfl) (by kernel_rfl) (h.pick [0, 2] rfl) rfl ?_
 refine qaF 6 rfl (by kernel_rfl) rfl #[tt, tt, tt, tt, tt, tt, tt, ff, ff, ff, ff, ff, ff, ff, ff, ff] (by kernel_rfl) (by kernel_rfl) (h.pick [0, 2] rfl) rfl ?_
 refine qaF 7 rfl (by kernel_rfl) rfl #[tt, tt, tt, tt, tt, tt, tt, tt, ff, ff, ff, ff, ff, ff, ff, ff] (by kernel_rfl) (by kernel_rfl) (h.pick [0, 2] rfl) rfl ?_
 refine qaF 8 rfl (by kernel_rfl) rfl #[tt, tt, tt, tt, tt, tt, tt, tt, tt, ff, ff, ff, ff, ff, ff, ff] (by kernel_rfl) (by kernel_rfl) (h.pick [0, 2] rfl) rfl ?_
 refine qaF 9 rfl (by kernel_rfl) rfl #[tt, tt, tt, tt, tt, tt, tt, tt, tt, tt, ff, ff, ff, ff, ff, ff] (by kernel_rfl) (by kernel_rfl) (h.pick [0, 2] rfl) rfl ?_
 refine qaF 10 rfl (by kernel_rfl) rfl #[tt, tt, tt, tt, tt, tt, tt, tt, tt, tt, tt, ff, ff, ff, ff, ff] (by kernel_rfl) (by kernel_rfl) (h.pick [0, 2] rfl) rfl ?_
 refine qaF 11 rfl (by kernel_rfl) rfl #[tt, tt, tt, tt, tt, tt, tt, tt, tt, tt, tt, tt, ff, ff, ff, ff] (by kernel_rfl) (by kernel_rfl) (h.pick [0, 2] rfl) rfl ?_
 refine qaF 12 rfl (by kernel_rfl) rfl #[tt, tt, tt, tt, tt, tt, tt, tt, tt, tt, tt, tt, tt, ff, ff, ff] (by kernel_rfl) (by kernel_rfl) (h.pick [0, 2] rfl) rfl ?_
 refine qaF 13 rfl (by kernel_rfl) rfl #[tt, tt, tt, tt, tt, tt, tt, tt, tt, tt, tt, tt, tt, tt, ff, ff] (by kernel_rfl) (by kernel_rfl) (h.pick [0, 2] rfl) rfl ?_
 refine qi 14 rfl #[tt, tt, tt, tt, tt, tt, tt, tt, tt, tt, tt, tt, tt, tt, tt, ff] (by kernel_rfl) (by kernel_rfl) (fun w' hw => v_p qc rfl w') (h.pick [0, 2] rfl) rfl ?_
 refine qi 15 rfl #[tt, tt, tt, tt, tt, tt, tt, tt, tt, tt, tt, tt, tt, tt, tt, tt] (by kernel_rfl) (by kernel_rfl) (fun w' hw => v_p qc rfl w') (h.pick [0, 2] rfl) rfl ?_
 refine qcp (by kernel_rfl) ?_
 exact qu qc h hF ⟨rfl, trivial⟩

def qe9 (n : Nat) (l : qt) (d : qk) (place : Int) : Option Int :=
 (qf7 n l d place).bind fun o => match o with
  | (r2, r3) =>
   bif (!r3) then
    some (-1)
   else
    some r2.net

theorem qjK {n : Nat} {w : World} {l : qt} {d : qk} {place : Int} {cs1 : List Value} (ha1 : GoT.R w (old w) l cs1) {cs2 : List Value} (ha2 : GoT.R w (old w) d cs2) {r : Int} (hF : qe9 n l d place = some r) : RetV Tryz.prog 96 [GoT.v qt cs1, GoT.v qk cs2, .int .i64 place] w r := by
 obtain ⟨p1, k1, rfl, s1⟩ := qbu ha1
 obtain ⟨p2, k2, p3, k3, p4, k4, rfl, s2, s3, s4⟩ := qan ha2
 refine qe Tryz.func96 rfl (m := 20) rfl rfl (fun h => ?_)
 rw [qe9] at hF
 refine zSR (qM h rfl rfl ?_)
 intro w1 bb1 h
 refine qM h rfl rfl ?_
 intro w2 bb2 h
 refine zp1 rfl (zNSR (zl 1 0 h rfl (zl 0 0 h rfl (zp1 rfl ?_))))
 obtain ⟨r1, hr1, hF⟩ := qd hF
 obtain ⟨r2, r3⟩ := r1
 refine qie (r2, r3) h call94 (qib (h.old ha1) (h.old ha2) hr1) rfl rfl rfl rfl ?_
 intro w3 S1 us1 hv1 hr2
 obtain ⟨S2, S3, cs3, us2, rfl, hv2, hr3⟩ := hv1.cons hr2
 obtain rfl := qci (hv2.sh.own 0 rfl)
 obtain ⟨rfl, h⟩ := hv2.lastB hr3
 refine zp3 rfl (qU qc h rfl rfl rfl ?_)
 intro w4 bb3 h
 refine zs 0 h rfl ?_
 intro w5 h
 refine zp1 rfl (zNSSR (zp2 rfl (qb ?_)))
 refine qq rfl hF ?_ ?_ <;> intro hF
 ·exact zSR (zp1 rfl (qb (qaB qc h hF ⟨rfl, trivial⟩)))
 exact zKSR (zp1 rfl (zl 0 2 h rfl (zp1 rfl (qb (qaB qc h hF ⟨rfl, trivial⟩)))))

def qbM (net : Int) (r1 : (List Tl05Place)) : Nat → Int → Option (Flow Int Int)
 | 0, _ => none
 | n + 1, i1 =>
  bif decide (i1 < (r1.length : Int)) then
   (idx r1 i1).bind fun y1 =>
   bif (y1.net == net) then
    (idx r1 i1).bind fun y2 =>
    bif y2.drives then
     some (.ret i1)
    else
     qbM net r1 n (W64 (i1 + 1))
   else
    qbM net r1 n (W64 (i1 + 1))
  else
   some (.nxt i1)

def qfy (n : Nat) (d : qk) (net : Int) : Option Int :=
 (qcD n d).bind fun r1 =>
 (qbM net r1 n 0).bind fun o => match o with
 | .ret r => some r
 | .nxt _ =>
  some (-1)

theorem qkb {n : Nat} {w : World} {d : qk} {net : Int} {cs1 : List Value} (ha1 : GoT.R w (old w) d cs1) {r : Int} (hF : qfy n d net = some r) : RetV Tryz.prog 97 [GoT.v qk cs1, .int .i64 net] w r := by
 obtain ⟨p1, k1, p2, k2, p3, k3, rfl, s1, s2, s3⟩ := qan ha1
 refine qe Tryz.func97 rfl (m := 30) rfl rfl (fun h => ?_)
 rw [qfy] at hF
 refine zSR (qM h rfl rfl ?_)
 intro w1 bb1 h
 refine zp1 rfl (zNSR (zl 0 0 h rfl ?_))
 obtain ⟨r1, hr1, hF⟩ := qd hF
 refine qak r1 h call93 (qek (h.old ha1) hr1) rfl rfl rfl rfl ?_
 intro w2 S1 p4 k4 h
 refine zp1 rfl (zNSSR (zp1 rfl (qb ?_)))
 obtain ⟨o1, hF, hK1⟩ := qd hF
 refine qz ?_
 replace h := h.pick [0] rfl
 refine qT [(1, _), (5, _), (6, _)] ⟨rfl, rfl, rfl, trivial⟩ ?_
 refine qH (fun m e w' => ∃ (i1 : Int), qbM net r1 m i1 = some o1 ∧ e = [(1, .int .i64 net), (5, .slice p4 r1.length k4), (6, .int .i64 i1)] ∧ SH w w' [Ch.own S1 (r1 : List Tl05Place) [.slice p4 r1.length k4]]) n ⟨_, hF, rfl, h⟩ ?_
 rintro m1 e1 w3 ⟨i1, hF, rfl, h⟩
 rcases m1 with _ | m1
 ·rw [qbM] at hF
  cases hF
 rw [qbM] at hF
 refine zSSR (zp4 rfl (qb ?_))
 refine qq rfl hF ?_ ?_ <;> intro hF
 ·refine zKSBSR (zp2 rfl ?_)
  obtain ⟨y1, hy1, hF⟩ := qd hF
  have he1 := qg hy1
  obtain ⟨b1, o_1, q1, cs2, hp1, hq1, -, hr2, hc2⟩ := (h.sl 0 rfl).1.at hy1
  obtain rfl := qci hr2
  refine zx hp1 hq1 ⟨he1.1, qa0 he1.2.1 (h.sl 0 rfl).2⟩ rfl (zp1 rfl (zc 2 hc2 rfl (zp3 rfl ?_)))
  by_cases hc3 : (y1.net == net) = true
  ·replace hF := bifT hc3 hF
   refine qC hc3 (t := 22) rfl (qa rfl (zp1 rfl (qa rfl (zp1 rfl (qa rfl ?_)))))
   obtain ⟨y2, hy2, hF⟩ := qd hF
   have he2 := qg hy2
   obtain ⟨b2, o_2, q2, cs3, hp2, hq2, -, hr3, hc4⟩ := (h.sl 0 rfl).1.at hy2
   obtain rfl := qci hr3
   refine zx hp2 hq2 ⟨he2.1, qa0 he2.2.1 (h.sl 0 rfl).2⟩ rfl (qa rfl (zp1 rfl (qa rfl (zc 3 hc4 rfl (zp1 rfl (qb ?_))))))
   refine qq rfl hF ?_ ?_ <;> intro hF
   ·refine zSR (zp2 rfl (qb ?_))
    obtain rfl := qj hF; replace hF := hK1
    exact qaB qc h hF ⟨rfl, trivial⟩
   exact zKER (zp3 rfl (qb (qA m1 [(1, _), (5, _), (6, _)] (Nat.lt_succ_self m1) ⟨rfl, rfl, rfl, trivial⟩ ⟨_, hF, rfl, h⟩)))
  replace hc3 := zb hc3
  replace hF := bifF hc3 hF
  refine qB hc3 (t := 22) rfl (zn5 rfl (zp1 rfl (qb (qc3 rfl rfl (zKER ?_)))))
  exact zp3 rfl (qb (qA m1 [(1, _), (5, _), (6, _)] (Nat.lt_succ_self m1) ⟨rfl, rfl, rfl, trivial⟩ ⟨_, hF, rfl, h⟩))
 refine qI rfl ?_
 obtain rfl := qj hF; replace hF := hK1
 exact zSR (zp1 rfl (qb (qaB qc h hF ⟨rfl, trivial⟩)))

def qck (a_instance : Int) (pin : Int) (r1 : (List Tl05Place)) : Nat → Int → Option (Flow Int Int)
 | 0, _ => none
 | n + 1, i1 =>
  bif decide (i1 < (r1.length : Int)) then
   (idx r1 i1).bind fun y1 =>
   bif (y1.instance_ == a_instance) then
    (idx r1 i1).bind fun y2 =>
    bif (y2.pin == pin) then
     some (.ret i1)
    else
     qck a_instance pin r1 n (W64 (i1 + 1))
   else
    qck a_instance pin r1 n (W64 (i1 + 1))
  else
   some (.nxt i1)

def qfE (n : Nat) (d : qk) (a_instance : Int) (pin : Int) : Option Int :=
 (qcD n d).bind fun r1 =>
 (qck a_instance pin r1 n 0).bind fun o => match o with
 | .ret r => some r
 | .nxt _ =>
  some (-1)

theorem qkL {n : Nat} {w : World} {d : qk} {a_instance : Int} {pin : Int} {cs1 : List Value} (ha1 : GoT.R w (old w) d cs1) {r : Int} (hF : qfE n d a_instance pin = some r) : RetV Tryz.prog 99 [GoT.v qk cs1, .int .i64 a_instance, .int .i64 pin] w r := by
 obtain ⟨p1, k1, p2, k2, p3, k3, rfl, s1, s2, s3⟩ := qan ha1
 refine qe Tryz.func99 rfl (m := 34) rfl rfl (fun h => ?_)
 rw [qfE] at hF
 refine zSR (qM h rfl rfl ?_)
 intro w1 bb1 h
 refine zp1 rfl (zNSR (zl 0 0 h rfl ?_))
 obtain ⟨r1, hr1, hF⟩ := qd hF
 refine qak r1 h call93 (qek (h.old ha1) hr1) rfl rfl rfl rfl ?_
 intro w2 S1 p4 k4 h
 refine zp1 rfl (zNSSR (zp1 rfl (qb ?_)))
 obtain ⟨o1, hF, hK1⟩ := qd hF
 refine qz ?_
 replace h := h.pick [0] rfl
 refine qT [(1, _), (2, _), (7, _), (8, _)] ⟨rfl, rfl, rfl, rfl, trivial⟩ ?_
 refine qH (fun m e w' => ∃ (i1 : Int), qck a_instance pin r1 m i1 = some o1 ∧ e = [(1, .int .i64 a_instance), (2, .int .i64 pin), (7, .slice p4 r1.length k4), (8, .int .i64 i1)] ∧ SH w w' [Ch.own S1 (r1 : List Tl05Place) [.slice p4 r1.length k4]]) n ⟨_, hF, rfl, h⟩ ?_
 rintro m1 e1 w3 ⟨i1, hF, rfl, h⟩
 rcases m1 with _ | m1
 ·rw [qck] at hF
  cases hF
 rw [qck] at hF
 refine zSSR (zp4 rfl (qb ?_))
 refine qq rfl hF ?_ ?_ <;> intro hF
 ·refine zKSBSR (zp2 rfl ?_)
  obtain ⟨y1, hy1, hF⟩ := qd hF
  have he1 := qg hy1
  obtain ⟨b1, o_1, q1, cs2, hp1, hq1, -, hr2, hc2⟩ := (h.sl 0 rfl).1.at hy1
  obtain rfl := qci hr2
  refine zx hp1 hq1 ⟨he1.1, qa0 he1.2.1 (h.sl 0 rfl).2⟩ rfl (zp1 rfl (zc 0 hc2 rfl (zp3 rfl ?_)))
  by_cases hc3 : (y1.instance_ == a_instance) = true
  ·replace hF := bifT hc3 hF
   refine qC hc3 (t := 24) rfl (qa rfl (zp1 rfl (qa rfl (zp1 rfl (qa rfl ?_)))))
   obtain ⟨y2, hy2, hF⟩ := qd hF
   have he2 := qg hy2
   obtain ⟨b2, o_2, q2, cs3, hp2, hq2, -, hr3, hc4⟩ := (h.sl 0 rfl).1.at hy2
   obtain rfl := qci hr3
   refine zx hp2 hq2 ⟨he2.1, qa0 he2.2.1 (h.sl 0 rfl).2⟩ rfl (qa rfl (zp1 rfl (qa rfl (zc 1 hc4 rfl (qa rfl (zp1 rfl (qa rfl (zp2 rfl (qb ?_)))))))))
   refine qq rfl hF ?_ ?_ <;> intro hF
   ·refine zSR (zp2 rfl (qb ?_))
    obtain rfl := qj hF; replace hF := hK1
    exact qaB qc h hF ⟨rfl, trivial⟩
   exact zKER (zp3 rfl (qb (qA m1 [(1, _), (2, _), (7, _), (8, _)] (Nat.lt_succ_self m1) ⟨rfl, rfl, rfl, rfl, trivial⟩ ⟨_, hF, rfl, h⟩)))
  replace hc3 := zb hc3
  replace hF := bifF hc3 hF
  refine qB hc3 (t := 24) rfl (zn5 rfl (zn2 rfl (zp1 rfl (qb (qc3 rfl rfl (qd4 ?_))))))
  exact qfL (qE (zp3 rfl (qb (qA m1 [(1, _), (2, _), (7, _), (8, _)] (Nat.lt_succ_self m1) ⟨rfl, rfl, rfl, rfl, trivial⟩ ⟨_, hF, rfl, h⟩))))
 refine qI rfl ?_
 obtain rfl := qj hF; replace hF := hK1
 exact zSR (zp1 rfl (qb (qaB qc h hF ⟨rfl, trivial⟩)))

def qbA (a_0 : qy) (r6 : (List Int)) : Nat → (List Int) → Int → Option ((List Int) × Int)
 | 0, _, _ => none
 | n + 1, x1, i1 =>
  bif decide (i1 < (r6.length : Int)) then
   (idx r6 i1).bind fun y1 =>
   (qfW n a_0 y1).bind fun r7 =>
   bif (!r7) then
    (idx r6 i1).bind fun y2 =>
    (appS x1 ([y2] : List Int)).bind fun x2 =>
    qbA a_0 r6 n x2 (W64 (i1 + 1))
   else
    qbA a_0 r6 n x1 (W64 (i1 + 1))
  else
   some (x1, i1)

def qcz (a_0 : qy) (r2 : Tl05Place) (r8 : qD) : Nat → Int → Option (Flow (List Int) Int)
 | 0, _ => none
 | n + 1, i2 =>
  bif decide (i2 < (r8.Arcs.length : Int)) then
   (
    (idx r8.Arcs i2).bind fun y3 =>
    bif (y3.From == r2.pin) then
     (idx r8.Arcs i2).bind fun y4 =>
     some (decide (y4.Kind ≤ 3))
    else
     some false).bind fun b3 =>
   bif b3 then
    (qfE n (⟨a_0.Design.Instances, a_0.Design.Nets, a_0.Design.Ports⟩ : qk) r2.instance_ (W64 ((r8.Pins.length : Int) - 1))).bind fun r9 =>
    some (.ret ([r9] : List Int))
   else
    qcz a_0 r2 r8 n (W64 (i2 + 1))
  else
   some (.nxt i2)

def qf0 (n : Nat) (a_0 : qy) (a_1 : Int) : Option (List Int) :=
 (qf7 n (⟨a_0.Library.Cells⟩ : qt) (⟨a_0.Design.Instances, a_0.Design.Nets, a_0.Design.Ports⟩ : qk) a_1).bind fun o => match o with
  | (r2, _) =>
   (qe9 n (⟨a_0.Library.Cells⟩ : qt) (⟨a_0.Design.Instances, a_0.Design.Nets, a_0.Design.Ports⟩ : qk) a_1).bind fun r4 =>
   (qfy n (⟨a_0.Design.Instances, a_0.Design.Nets, a_0.Design.Ports⟩ : qk) r4).bind fun r5 =>
   bif (r5 == a_1) then
    (qfd n (⟨a_0.Design.Instances, a_0.Design.Nets, a_0.Design.Ports⟩ : qk) r4).bind fun r6 =>
    (qbA a_0 r6 n ([] : List Int) 0).bind fun o => match o with
    | (x1, _) =>
     some x1
   else
    bif decide (r2.instance_ < 0) then
     some ([] : List Int)
    else
     (qe1 n a_0 r2.instance_).bind fun r8 =>
     (qcz a_0 r2 r8 n 0).bind fun o => match o with
     | .ret r => some r
     | .nxt _ =>
      some ([] : List Int)

theorem qkm {n : Nat} {w : World} {a_0 : qy} {a_1 : Int} {cs1 : List Value} (ha1 : GoT.R w (old w) a_0 cs1) {r : (List Int)} (hF : qf0 n a_0 a_1 = some r) : RetV Tryz.prog 50 [GoT.v qy cs1, .int .i64 a_1] w r := by
 obtain ⟨p1, k1, p2, k2, p3, k3, p4, k4, p5, k5, rfl, s1, s2, s3, s4, s5⟩ := qas ha1
 refine qe Tryz.func50 rfl (m := 104) rfl rfl (fun h => ?_)
 rw [qf0] at hF
 refine zSR (qM h rfl rfl ?_)
 intro w1 bb1 h
 refine zp1 rfl (zNSR (qaP qc [] _ ([] : List Int) h rfl rfl rfl rfl rfl rfl rfl rfl rfl trivial rfl ?_))
 intro w2 p6 S1 h
 refine zp1 rfl (zNSR (zp1 rfl (zl 1 0 h rfl (zp1 rfl (zl 1 1 h rfl (zp1 rfl ?_))))))
 obtain ⟨r1, hr1, hF⟩ := qd hF
 obtain ⟨r2, r3⟩ := r1
 refine qie (r2, r3) h call94 (qib (qdc (⟨a_0.Library.Cells⟩ : qt) (h.oldS s1)) (qba (⟨a_0.Design.Instances, a_0.Design.Nets, a_0.Design.Ports⟩ : qk) (h.oldS s2) (h.oldS s3) (h.oldS s4)) hr1) rfl rfl rfl rfl ?_
 intro w3 S2 us1 hv1 hr2
 obtain ⟨S3, S4, cs2, us2, rfl, hv2, hr3⟩ := hv1.cons hr2
 obtain rfl := qci (hv2.sh.own 0 rfl)
 obtain ⟨rfl, h⟩ := hv2.lastB hr3
 refine zp3 rfl (qU qc h rfl rfl rfl ?_)
 intro w4 bb2 h
 refine zs 0 h rfl ?_
 intro w5 h
 refine zp1 rfl (zNSR (zp1 rfl (zl 3 0 h rfl (zp1 rfl (zl 3 1 h rfl (zp1 rfl ?_))))))
 obtain ⟨r4, hr5, hF⟩ := qd hF
 refine qQ r4 h call96 (qjK (qdc (⟨a_0.Library.Cells⟩ : qt) (h.oldS s1)) (qba (⟨a_0.Design.Instances, a_0.Design.Nets, a_0.Design.Ports⟩ : qk) (h.oldS s2) (h.oldS s3) (h.oldS s4)) hr5) rfl rfl rfl rfl ?_
 intro w6 h
 refine zp1 rfl (zNSSR (zp1 rfl (zl 3 1 h rfl (zp1 rfl ?_))))
 obtain ⟨r5, hr6, hF⟩ := qd hF
 refine qQ r5 h call97 (qkb (qba (⟨a_0.Design.Instances, a_0.Design.Nets, a_0.Design.Ports⟩ : qk) (h.oldS s2) (h.oldS s3) (h.oldS s4)) hr6) rfl rfl rfl rfl ?_
 intro w7 h
 refine zp2 rfl (qb ?_)
 refine qq rfl hF ?_ ?_ <;> intro hF
 ·refine zSR (zp1 rfl (zl 3 1 h rfl (zp1 rfl ?_)))
  obtain ⟨r6, hr7, hF⟩ := qd hF
  refine qak r6 h call69 (qiy (qba (⟨a_0.Design.Instances, a_0.Design.Nets, a_0.Design.Ports⟩ : qk) (h.oldS s2) (h.oldS s3) (h.oldS s4)) hr7) rfl rfl rfl rfl ?_
  intro w8 S6 p7 k6 h
  refine zp1 rfl (zNSSR (zp1 rfl (qb ?_)))
  obtain ⟨o1, hF, hK1⟩ := qd hF
  refine qz ?_
  replace h := h.pick [0, 3, 4] rfl
  refine qT [(2, _), (5, _), (9, _), (10, _)] ⟨rfl, rfl, rfl, rfl, trivial⟩ ?_
  refine qH (fun m e w' => ∃ (S7 : Nat → Prop) (p8 : Option Addr) (ln1 : Nat) (k7 : Nat) (x1 : (List Int)) (i1 : Int), qbA a_0 r6 m x1 i1 = some o1 ∧ e = [(2, .pointer (some ⟨bb1, 0, none⟩)), (5, .slice p8 ln1 k7), (9, .slice p7 r6.length k6), (10, .int .i64 i1)] ∧ SH w w' [Ch.own S6 (r6 : List Int) [.slice p7 r6.length k6], Ch.own S7 (x1 : List Int) [.slice p8 ln1 k7], Ch.box bb1 [.slice p1 a_0.Library.Cells.length k1, .slice p2 a_0.Design.Instances.length k2, .slice p3 a_0.Design.Nets.length k3, .slice p4 a_0.Design.Ports.length k4, .slice p5 a_0.Wires.length k5] 48]) n ⟨_, _, _, _, _, _, hF, rfl, h⟩ ?_
  rintro m1 e1 w9 ⟨S7, p8, ln1, k7, x1, i1, hF, rfl, h⟩
  obtain rfl := (h.sl 1 rfl).2
  rcases m1 with _ | m1
  ·rw [qbA] at hF
   cases hF
  rw [qbA] at hF
  refine zSSR (zp4 rfl (qb ?_))
  refine qq rfl hF ?_ ?_ <;> intro hF
  ·refine zKSB (qbn ?_)
   refine qco rfl (by kernel_rfl) ?_
   refine zdl 2 0 h rfl ?_
   refine zd2 rfl ?_
   obtain ⟨y1, hy1, hF⟩ := qd hF
   have he1 := qg hy1
   obtain ⟨b1, o_1, q1, cs3, hp1, hq1, -, hr8, hc3⟩ := (h.sl 0 rfl).1.at hy1
   obtain rfl := hr8
   refine zdx hp1 hq1 ⟨he1.1, qa0 he1.2.1 (h.sl 0 rfl).2⟩ rfl ?_
   refine zdc 0 hc3 rfl ?_
   obtain ⟨r7, hr9, hF⟩ := qd hF
   refine qcf r7 (vsB _) call95 (fun _ hb => qkz ((h.ext hb).old ha1) hr9) rfl rfl rfl rfl ?_
   refine zd1 rfl ?_
   refine qaX (fun w10 hb => ?_)
   replace h := h.ext hb
   clear hb
   refine qq rfl hF ?_ ?_ <;> intro hF
   ·refine qE (zp3 rfl ?_)
    obtain ⟨y2, hy2, hF⟩ := qd hF
    have he2 := qg hy2
    obtain ⟨b2, o_2, q2, cs4, hp2, hq2, -, hr10, hc5⟩ := (h.sl 0 rfl).1.at hy2
    obtain rfl := hr10
    refine zx hp2 hq2 ⟨he2.1, qa0 he2.2.1 (h.sl 0 rfl).2⟩ rfl (zc 0 hc5 rfl (qaP qc [.tmp 56] _ ([y2] : List Int) h rfl rfl rfl rfl rfl rfl rfl rfl rfl ⟨rfl, trivial⟩ rfl ?_))
    intro w11 p9 S8 h
    obtain ⟨x2, hx1, hF⟩ := qd hF
    obtain ⟨g1, hx1⟩ := qbr hx1
    refine qeq qc 2 h rfl (h.sl 0 rfl).1 (h.sl 0 rfl).2 rfl rfl rfl rfl rfl rfl rfl rfl rfl g1 hx1 rfl ?_
    intro w12 p10 k8 S9 h
    refine zp1 rfl (zNER (zp3 rfl (qb ?_)))
    replace h := h.pick [1, 2, 3] rfl
    exact qA m1 [(2, _), (5, _), (9, _), (10, _)] (Nat.lt_succ_self m1) ⟨rfl, rfl, rfl, rfl, trivial⟩ ⟨_, _, _, _, _, _, hF, rfl, h⟩
   exact zKER (zp3 rfl (qb (qA m1 [(2, _), (5, _), (9, _), (10, _)] (Nat.lt_succ_self m1) ⟨rfl, rfl, rfl, rfl, trivial⟩ ⟨_, _, _, _, _, _, hF, rfl, h⟩)))
  refine qI rfl ?_
  obtain rfl := qj hF; replace hF := hK1
  refine zSR (zp2 rfl (qb ?_))
  obtain rfl := qj hF
  exact qap qc (ρ := (List Int)) [GoT.v (List Int) [.slice p8 x1.length k7]] h ⟨rfl, trivial⟩ (PV.done h (qav (qaz 1 h rfl)))
 refine zKSSR (zp1 rfl (zl 0 0 h rfl (zp1 rfl (qb ?_))))
 refine qq rfl hF ?_ ?_ <;> intro hF
 ·refine zSR (zp2 rfl (qb ?_))
  obtain rfl := qj hF
  exact qap qc (ρ := (List Int)) [GoT.v (List Int) [.slice p6 0 0]] h ⟨rfl, trivial⟩ (PV.done h (qav (qaz 2 h rfl)))
 refine zKSR (zl 3 0 h rfl (zp1 rfl (zl 0 0 h rfl ?_)))
 have hg1 : Rg (old w) w (old w) w := .start (fun _ h => h)
 obtain ⟨r8, hr11, hF⟩ := qd hF
 refine qla r8 hg1 h call98 (qiO (hg1.atB h) (hg1.inBR h ha1) hr11) rfl rfl rfl rfl ?_
 intro w13 us3 S10 h hv4
 obtain ⟨cs5, rfl, hr12⟩ := qlA hv4
 have hr13 := hr12
 obtain ⟨p11, k9, p12, k10, p13, k11, rfl, s6, s7, s8⟩ := qV hr12
 replace h := h.grpAdd 0 rfl hr13
 refine qU qc h rfl rfl rfl ?_
 intro w14 bb3 h
 refine zs 0 h rfl ?_
 intro w15 h
 replace h : SH _ _ [Ch.box bb3 [.string r8.Name, .int .i64 r8.Kind, .slice p11 r8.Pins.length k9, .slice p12 r8.Arcs.length k10, .slice p13 r8.Truth.length k11, .int .i64 r8.Leak, .int .i64 r8.Energy] 155, Ch.grp (old w) S10 [fct (r8 : qD) [.string r8.Name, .int .i64 r8.Kind, .slice p11 r8.Pins.length k9, .slice p12 r8.Arcs.length k10, .slice p13 r8.Truth.length k11, .int .i64 r8.Leak, .int .i64 r8.Energy]], Ch.box bb2 [.int .i64 r2.instance_, .int .i64 r2.pin, .int .i64 r2.net, .bool r2.drives] 144, Ch.own S3 (r2 : Tl05Place) [.int .i64 r2.instance_, .int .i64 r2.pin, .int .i64 r2.net, .bool r2.drives], Ch.own S1 (([] : List Int) : List Int) [.slice p6 0 0], Ch.box bb1 [.slice p1 a_0.Library.Cells.length k1, .slice p2 a_0.Design.Instances.length k2, .slice p3 a_0.Design.Nets.length k3, .slice p4 a_0.Design.Ports.length k4, .slice p5 a_0.Wires.length k5] 48] := h
 refine zNSSR (zp1 rfl (qb ?_))
 obtain ⟨o2, hF, hK2⟩ := qd hF
 refine qz ?_
 replace h := h.pick [0, 1, 2, 4, 5] rfl
 refine qT [(2, _), (5, _), (6, _), (11, _), (12, _)] ⟨rfl, rfl, rfl, rfl, rfl, trivial⟩ ?_
 refine qH (fun m e w' => ∃ (i2 : Int), qcz a_0 r2 r8 m i2 = some o2 ∧ e = [(2, .pointer (some ⟨bb1, 0, none⟩)), (5, .slice p6 0 0), (6, .pointer (some ⟨bb2, 0, none⟩)), (11, .pointer (some ⟨bb3, 0, none⟩)), (12, .int .i64 i2)] ∧ SH w w' [Ch.box bb3 [.string r8.Name, .int .i64 r8.Kind, .slice p11 r8.Pins.length k9, .slice p12 r8.Arcs.length k10, .slice p13 r8.Truth.length k11, .int .i64 r8.Leak, .int .i64 r8.Energy] 155, Ch.grp (old w) S10 [fct (r8 : qD) [.string r8.Name, .int .i64 r8.Kind, .slice p11 r8.Pins.length k9, .slice p12 r8.Arcs.length k10, .slice p13 r8.Truth.length k11, .int .i64 r8.Leak, .int .i64 r8.Energy]], Ch.box bb2 [.int .i64 r2.instance_, .int .i64 r2.pin, .int .i64 r2.net, .bool r2.drives] 144, Ch.own S1 (([] : List Int) : List Int) [.slice p6 0 0], Ch.box bb1 [.slice p1 a_0.Library.Cells.length k1, .slice p2 a_0.Design.Instances.length k2, .slice p3 a_0.Design.Nets.length k3, .slice p4 a_0.Design.Ports.length k4, .slice p5 a_0.Wires.length k5] 48]) n ⟨_, hF, rfl, h⟩ ?_
 rintro m2 e2 w16 ⟨i2, hF, rfl, h⟩
 rcases m2 with _ | m2
 ·rw [qcz] at hF
  cases hF
 rw [qcz] at hF
 refine zSSR (zp2 rfl (zl 0 3 h rfl (zp2 rfl (qb ?_))))
 refine qq rfl hF ?_ ?_ <;> intro hF
 ·refine zKSB (qbn ?_)
  obtain ⟨KF1, hKF1, o3, hF, hK3⟩ := bindE hF
  refine qem (fun e w' => ∃ (b3 : Bool), KF1 b3 = some o2 ∧ e = [(2, .pointer (some ⟨bb1, 0, none⟩)), (5, .slice p6 0 0), (6, .pointer (some ⟨bb2, 0, none⟩)), (11, .pointer (some ⟨bb3, 0, none⟩)), (12, .int .i64 i2), (92, .bool b3)] ∧ SH w w' [Ch.box bb3 [.string r8.Name, .int .i64 r8.Kind, .slice p11 r8.Pins.length k9, .slice p12 r8.Arcs.length k10, .slice p13 r8.Truth.length k11, .int .i64 r8.Leak, .int .i64 r8.Energy] 155, Ch.grp (old w) S10 [fct (r8 : qD) [.string r8.Name, .int .i64 r8.Kind, .slice p11 r8.Pins.length k9, .slice p12 r8.Arcs.length k10, .slice p13 r8.Truth.length k11, .int .i64 r8.Leak, .int .i64 r8.Energy]], Ch.box bb2 [.int .i64 r2.instance_, .int .i64 r2.pin, .int .i64 r2.net, .bool r2.drives] 144, Ch.own S1 (([] : List Int) : List Int) [.slice p6 0 0], Ch.box bb1 [.slice p1 a_0.Library.Cells.length k1, .slice p2 a_0.Design.Instances.length k2, .slice p3 a_0.Design.Nets.length k3, .slice p4 a_0.Design.Ports.length k4, .slice p5 a_0.Wires.length k5] 48]) ?_ ?_
  ·refine qco rfl (by kernel_rfl) ?_
   refine zd1 rfl ?_
   refine zdl 0 3 h rfl ?_
   refine zd1 rfl ?_
   obtain ⟨y3, hy3, hF⟩ := qd hF
   have he3 := qg hy3
   obtain ⟨b4, o_3, q3, cs6, hp3, hq3, -, hr15, hc9⟩ := (qgR (h.grpS 1 0 rfl rfl)).2.1.1.at hy3
   have hr16 := hr15
   obtain ⟨p15, k12, p16, k13, rfl, s9, s10⟩ := qat hr15
   replace h := h.grpAdd 1 rfl hr16
   refine zdx hp3 hq3 ⟨he3.1, qa0 he3.2.1 (qgR (h.grpS 1 1 rfl rfl)).2.1.2⟩ rfl ?_
   refine zd1 rfl ?_
   refine zdc 1 hc9 rfl ?_
   refine zd1 rfl ?_
   refine zdl 2 1 h rfl ?_
   refine zd2 rfl ?_
   by_cases hc10 : (y3.From == r2.pin) = true
   ·replace hF := bifT hc10 hF
    refine qb0 hc10 (t := 84) rfl (qf rfl (zd1 rfl (qf rfl ?_)))
    refine zdl 0 3 h rfl ?_
    refine qf rfl (zd1 rfl (qf rfl ?_))
    obtain ⟨y4, hy4, hF⟩ := qd hF
    have he4 := qg hy4
    obtain ⟨b5, o_4, q4, cs7, hp4, hq4, -, hr17, hc11⟩ := (qgR (h.grpS 1 1 rfl rfl)).2.1.1.at hy4
    have hr18 := hr17
    obtain ⟨p17, k14, p18, k15, rfl, s11, s12⟩ := qat hr17
    replace h := h.grpAdd 1 rfl hr18
    refine zdx hp4 hq4 ⟨he4.1, qa0 he4.2.1 (qgR (h.grpS 1 2 rfl rfl)).2.1.2⟩ rfl ?_
    refine qf rfl (zd1 rfl (qf rfl ?_))
    refine zdc 0 hc11 rfl ?_
    refine qf rfl (zd2 rfl ?_)
    refine qaX (fun w19 hb => ?_)
    replace h := h.ext hb
    clear hb
    replace h := h.grpKeep [2] 1 rfl
    obtain rfl := qj hF
    exact qx [(2, _), (5, _), (6, _), (11, _), (12, _), (92, _)] ⟨rfl, rfl, rfl, rfl, rfl, rfl, trivial⟩ ⟨_, hK3, rfl, h⟩
   replace hc10 := zb hc10
   replace hF := bifF hc10 hF
   refine qb3 hc10 (t := 84) rfl (qh rfl rfl rfl (qh rfl rfl rfl (qh rfl rfl rfl (qh rfl rfl rfl (qh rfl rfl rfl (qh rfl rfl rfl (qh rfl rfl rfl (zd1 rfl ?_))))))))
   refine qaX (fun w20 hb => ?_)
   replace h := h.ext hb
   clear hb
   replace h := h.grpKeep [1] 1 rfl
   obtain rfl := qj hF
   exact qx [(2, _), (5, _), (6, _), (11, _), (12, _), (92, _)] ⟨rfl, rfl, rfl, rfl, rfl, rfl, trivial⟩ ⟨_, hK3, rfl, h⟩
  rintro e3 w21 ⟨b3, hF, rfl, h⟩
  subst hKF1
  refine qq rfl hF ?_ ?_ <;> intro hF
  ·refine zSR (zp1 rfl (zl 4 1 h rfl (zp1 rfl (zl 2 0 h rfl (zp1 rfl (zl 0 2 h rfl (zp2 rfl ?_)))))))
   obtain ⟨r9, hr14, hF⟩ := qd hF
   refine qQ r9 h call99 (qkL (qba (⟨a_0.Design.Instances, a_0.Design.Nets, a_0.Design.Ports⟩ : qk) (h.oldS (s2.mono hg1.old)) (h.oldS (s3.mono hg1.old)) (h.oldS (s4.mono hg1.old))) hr14) rfl rfl rfl rfl ?_
   intro w17 h
   refine qaP qc [.tmp 101] _ ([r9] : List Int) h rfl rfl rfl rfl rfl rfl rfl rfl rfl ⟨rfl, trivial⟩ rfl ?_
   intro w18 p14 S11 h
   refine zp1 rfl (qb ?_)
   replace h := h.pick [0, 1, 3, 4, 5] rfl
   obtain rfl := qj hF; replace hF := hK2
   obtain rfl := qj hF
   exact qap qc (ρ := (List Int)) [GoT.v (List Int) [.slice p14 1 1]] h ⟨rfl, trivial⟩ (PV.done h (qav (qaz 0 h rfl)))
  exact zKER (zp3 rfl (qb (qA m2 [(2, _), (5, _), (6, _), (11, _), (12, _)] (Nat.lt_succ_self m2) ⟨rfl, rfl, rfl, rfl, rfl, trivial⟩ ⟨_, hF, rfl, h⟩)))
 refine qI rfl ?_
 obtain rfl := qj hF; replace hF := hK2
 refine zSR (zp2 rfl (qb ?_))
 replace h := h.pick [0, 2, 3, 4] rfl
 obtain rfl := qj hF
 exact qap qc (ρ := (List Int)) [GoT.v (List Int) [.slice p6 0 0]] h ⟨rfl, trivial⟩ (PV.done h (qav (qaz 2 h rfl)))

def qdt (_ : Nat) (a : qac) : Option (List qR) :=
 bif (a.Kind == 2) then
  some ([(⟨0, 0⟩ : qR), (⟨0, 1⟩ : qR)] : List qR)
 else
  bif (a.Kind == 3) then
   some ([(⟨1, 0⟩ : qR), (⟨1, 1⟩ : qR)] : List qR)
  else
   bif (a.Kind != 1) then
    some []
   else
    bif (a.Sense == 1) then
     some ([(⟨0, 0⟩ : qR), (⟨1, 1⟩ : qR)] : List qR)
    else
     bif (a.Sense == 2) then
      some ([(⟨0, 1⟩ : qR), (⟨1, 0⟩ : qR)] : List qR)
     else
      some ([(⟨0, 0⟩ : qR), (⟨0, 1⟩ : qR), (⟨1, 0⟩ : qR), (⟨1, 1⟩ : qR)] : List qR)

theorem qij {n : Nat} {w : World} {a : qac} {cs1 : List Value} (ha1 : GoT.R w (old w) a cs1) {r : (List qR)} (hF : qdt n a = some r) : RetV Tryz.prog 131 [GoT.v qac cs1] w r := by
 obtain ⟨p1, k1, p2, k2, rfl, s1, s2⟩ := qat ha1
 refine qe Tryz.func131 rfl (m := 44) rfl rfl (fun h => ?_)
 rw [qdt] at hF
 refine zSR (qM h rfl rfl ?_)
 intro w1 bb1 h
 refine zp1 rfl (zNSR (r_v (qe5 qc [0, 1] [.const (.int .i64 (0)), .const (.int .i64 (0))] rfl rfl rfl rfl rfl rfl rfl rfl rfl) rfl (r_v (qe5 qc [0, 1] [.const (.int .i64 (1)), .const (.int .i64 (1))] rfl rfl rfl rfl rfl rfl rfl rfl rfl) rfl (qaP qc [.tmp 5, .tmp 6] _ ([(⟨0, 0⟩ : qR), (⟨1, 1⟩ : qR)] : List qR) h rfl rfl rfl rfl rfl rfl rfl rfl rfl ⟨(qcU (⟨0, 0⟩ : qR)), (qcU (⟨1, 1⟩ : qR)), trivial⟩ rfl ?_))))
 intro w2 p3 S1 h
 refine zp1 rfl (zNSR (r_v (qe5 qc [0, 1] [.const (.int .i64 (0)), .const (.int .i64 (1))] rfl rfl rfl rfl rfl rfl rfl rfl rfl) rfl (r_v (qe5 qc [0, 1] [.const (.int .i64 (1)), .const (.int .i64 (0))] rfl rfl rfl rfl rfl rfl rfl rfl rfl) rfl (qaP qc [.tmp 8, .tmp 9] _ ([(⟨0, 1⟩ : qR), (⟨1, 0⟩ : qR)] : List qR) h rfl rfl rfl rfl rfl rfl rfl rfl rfl ⟨(qcU (⟨0, 1⟩ : qR)), (qcU (⟨1, 0⟩ : qR)), trivial⟩ rfl ?_))))
 intro w3 p4 S2 h
 refine zp1 rfl (zNSB (zSR (zp1 rfl (zl 2 0 h rfl (zp2 rfl (qb ?_))))))
 refine qq rfl hF ?_ ?_ <;> intro hF
 ·refine zSR (r_v (qe5 qc [0, 1] [.const (.int .i64 (0)), .const (.int .i64 (0))] rfl rfl rfl rfl rfl rfl rfl rfl rfl) rfl (r_v (qe5 qc [0, 1] [.const (.int .i64 (0)), .const (.int .i64 (1))] rfl rfl rfl rfl rfl rfl rfl rfl rfl) rfl (qaP qc [.tmp 15, .tmp 16] _ ([(⟨0, 0⟩ : qR), (⟨0, 1⟩ : qR)] : List qR) h rfl rfl rfl rfl rfl rfl rfl rfl rfl ⟨(qcU (⟨0, 0⟩ : qR)), (qcU (⟨0, 1⟩ : qR)), trivial⟩ rfl ?_)))
  intro w4 p5 S3 h
  refine zp1 rfl (qb ?_)
  obtain rfl := qj hF
  exact qap qc (ρ := (List qR)) [GoT.v (List qR) [.slice p5 2 2]] h ⟨rfl, trivial⟩ (PV.done h (qav (qaz 0 h rfl)))
 refine zSR (zp1 rfl (zl 2 0 h rfl (zp2 rfl (qb ?_))))
 refine qq rfl hF ?_ ?_ <;> intro hF
 ·refine zSR (r_v (qe5 qc [0, 1] [.const (.int .i64 (1)), .const (.int .i64 (0))] rfl rfl rfl rfl rfl rfl rfl rfl rfl) rfl (r_v (qe5 qc [0, 1] [.const (.int .i64 (1)), .const (.int .i64 (1))] rfl rfl rfl rfl rfl rfl rfl rfl rfl) rfl (qaP qc [.tmp 22, .tmp 23] _ ([(⟨1, 0⟩ : qR), (⟨1, 1⟩ : qR)] : List qR) h rfl rfl rfl rfl rfl rfl rfl rfl rfl ⟨(qcU (⟨1, 0⟩ : qR)), (qcU (⟨1, 1⟩ : qR)), trivial⟩ rfl ?_)))
  intro w5 p6 S4 h
  refine zp1 rfl (qb ?_)
  obtain rfl := qj hF
  exact qap qc (ρ := (List qR)) [GoT.v (List qR) [.slice p6 2 2]] h ⟨rfl, trivial⟩ (PV.done h (qav (qaz 0 h rfl)))
 refine zSR (zp1 rfl (zl 2 0 h rfl (zp2 rfl (qb ?_))))
 refine qq rfl hF ?_ ?_ <;> intro hF
 ·refine zSR (zp1 rfl (qb ?_))
  obtain rfl := qj hF
  exact qap qc (ρ := (List qR)) [GoT.v (List qR) [.slice none 0 0]] h ⟨rfl, trivial⟩ (PV.done h (qav qmR))
 refine zSR (zp1 rfl (zl 2 3 h rfl (zp2 rfl (qb ?_))))
 refine qq rfl hF ?_ ?_ <;> intro hF
 ·refine zSR (zp2 rfl (qb ?_))
  obtain rfl := qj hF
  exact qap qc (ρ := (List qR)) [GoT.v (List qR) [.slice p3 2 2]] h ⟨rfl, trivial⟩ (PV.done h (qav (qaz 1 h rfl)))
 refine zSR (zp1 rfl (zl 2 3 h rfl (zp2 rfl (qb ?_))))
 refine qq rfl hF ?_ ?_ <;> intro hF
 ·refine zSR (zp2 rfl (qb ?_))
  obtain rfl := qj hF
  exact qap qc (ρ := (List qR)) [GoT.v (List qR) [.slice p4 2 2]] h ⟨rfl, trivial⟩ (PV.done h (qav (qaz 0 h rfl)))
 refine zKE (zSR (r_v (qe5 qc [0, 1] [.const (.int .i64 (0)), .const (.int .i64 (0))] rfl rfl rfl rfl rfl rfl rfl rfl rfl) rfl (r_v (qe5 qc [0, 1] [.const (.int .i64 (0)), .const (.int .i64 (1))] rfl rfl rfl rfl rfl rfl rfl rfl rfl) rfl (r_v (qe5 qc [0, 1] [.const (.int .i64 (1)), .const (.int .i64 (0))] rfl rfl rfl rfl rfl rfl rfl rfl rfl) rfl (r_v (qe5 qc [0, 1] [.const (.int .i64 (1)), .const (.int .i64 (1))] rfl rfl rfl rfl rfl rfl rfl rfl rfl) rfl (qaP qc [.tmp 39, .tmp 40, .tmp 41, .tmp 42] _ ([(⟨0, 0⟩ : qR), (⟨0, 1⟩ : qR), (⟨1, 0⟩ : qR), (⟨1, 1⟩ : qR)] : List qR) h rfl rfl rfl rfl rfl rfl rfl rfl rfl ⟨(qcU (⟨0, 0⟩ : qR)), (qcU (⟨0, 1⟩ : qR)), (qcU (⟨1, 0⟩ : qR)), (qcU (⟨1, 1⟩ : qR)), trivial⟩ rfl ?_))))))
 intro w6 p7 S5 h
 refine zp1 rfl (qb ?_)
 obtain rfl := qj hF
 exact qap qc (ρ := (List qR)) [GoT.v (List qR) [.slice p7 4 4]] h ⟨rfl, trivial⟩ (PV.done h (qav (qaz 0 h rfl)))

def qa8 (first : Int) (i1 : Int) (y2 : qac) (r1 : (List qR)) : Nat → (List qbh) → Int → Option ((List qbh) × Int)
 | 0, _, _ => none
 | n + 1, x2, i2 =>
  bif decide (i2 < (r1.length : Int)) then
   (idx r1 i2).bind fun y3 =>
   (appS x2 ([(⟨W64 ((W64 (2 * (W64 (first + y2.From)))) + y3.e0), W64 ((W64 (2 * (W64 (first + y2.To)))) + y3.e1), 1, i1⟩ : qbh)] : List qbh)).bind fun x3 =>
   qa8 first i1 y2 r1 n x3 (W64 (i2 + 1))
  else
   some (x2, i2)

def qa5 (first : Int) (y1 : qD) : Nat → (List qbh) → Int → Option ((List qbh) × Int)
 | 0, _, _ => none
 | n + 1, x1, i1 =>
  bif decide (i1 < (y1.Arcs.length : Int)) then
   (idx y1.Arcs i1).bind fun y2 =>
   (qdt n y2).bind fun r1 =>
   (qa8 first i1 y2 r1 n x1 0).bind fun o => match o with
   | (x2, _) =>
    qa5 first y1 n x2 (W64 (i1 + 1))
  else
   some (x1, i1)

def qdn (n : Nat) (b : qy) (x : qp) (first : Int) : Option (List qbh) :=
 (idx b.Library.Cells x.Cell).bind fun y1 =>
 (qa5 first y1 n ([] : List qbh) 0).bind fun o => match o with
 | (x1, _) =>
  some x1

theorem qip {n : Nat} {w : World} {b : qy} {x : qp} {first : Int} {cs1 : List Value} (ha1 : GoT.R w (old w) b cs1) {cs2 : List Value} (ha2 : GoT.R w (old w) x cs2) {r : (List qbh)} (hF : qdn n b x first = some r) : RetV Tryz.prog 78 [GoT.v qy cs1, GoT.v qp cs2, .int .i64 first] w r := by
 obtain ⟨p1, k1, p2, k2, p3, k3, p4, k4, p5, k5, rfl, s1, s2, s3, s4, s5⟩ := qas ha1
 obtain ⟨p6, k6, rfl, s6⟩ := qX ha2
 refine qe Tryz.func78 rfl (m := 57) rfl rfl (fun h => ?_)
 rw [qdn] at hF
 refine zSR (qM h rfl rfl ?_)
 intro w1 bb1 h
 refine qM h rfl rfl ?_
 intro w2 bb2 h
 refine zp1 rfl (zNSR (zp1 rfl (zNSSR (zp2 rfl (zl 1 0 h rfl ?_)))))
 refine zp1 rfl (zl 0 1 h rfl ?_)
 obtain ⟨y1, hy1, hF⟩ := qd hF
 have he1 := qg hy1
 obtain ⟨b1, o_1, q1, cs3, hp1, hq1, -, hr1, hc1⟩ := s1.at hy1
 obtain ⟨p7, k7, p8, k8, p9, k9, rfl, s7, s8, s9⟩ := qV hr1
 refine zxe hp1 hq1 he1 rfl (zp1 rfl (zc 3 (hc1.below h.below) rfl (zp2 rfl (qb ?_))))
 replace h := h.nil (α := qbh)
 obtain ⟨o1, hF, hK1⟩ := qd hF
 refine qz ?_
 replace h := h.pick [0] rfl
 refine qT [(2, _), (7, _), (19, _), (20, _), (21, _)] ⟨rfl, rfl, rfl, rfl, rfl, trivial⟩ ?_
 refine qH (fun m e w' => ∃ (S1 : Nat → Prop) (p10 : Option Addr) (ln1 : Nat) (k10 : Nat) (x1 : (List qbh)) (i1 : Int), qa5 first y1 m x1 i1 = some o1 ∧ e = [(2, .int .i64 first), (7, .slice p10 ln1 k10), (19, .slice p8 y1.Arcs.length k8), (20, .int .i64 (y1.Arcs.length : Int)), (21, .int .i64 i1)] ∧ SH w w' [Ch.own S1 (x1 : List qbh) [.slice p10 ln1 k10]]) n ⟨_, _, _, _, _, _, hF, rfl, h⟩ ?_
 rintro m1 e1 w3 ⟨S1, p10, ln1, k10, x1, i1, hF, rfl, h⟩
 obtain rfl := (h.sl 0 rfl).2
 rcases m1 with _ | m1
 ·rw [qa5] at hF
  cases hF
 rw [qa5] at hF
 refine zSR (zp1 rfl (zNS ?_))
 refine qq rfl hF ?_ ?_ <;> intro hF
 ·refine zKSBSR (zp1 rfl ?_)
  obtain ⟨y2, hy2, hF⟩ := qd hF
  have he2 := qg hy2
  obtain ⟨b2, o_2, q2, cs4, hp2, hq2, -, hr2, hc3⟩ := s8.at hy2
  obtain ⟨p11, k11, p12, k12, rfl, s10, s11⟩ := qat hr2
  refine zxe hp2 hq2 he2 rfl (zc 0 (hc3.below h.below) rfl (qU qc h rfl rfl rfl ?_))
  intro w4 bb3 h
  refine zp1 rfl (zs 0 h rfl ?_)
  intro w5 h
  replace h : SH _ _ [Ch.box bb3 [.int .i64 y2.Kind, .int .i64 y2.From, .int .i64 y2.To, .int .i64 y2.Sense, .slice p11 y2.Delay.length k11, .slice p12 y2.Slew.length k12] 159, Ch.own S1 (x1 : List qbh) [.slice p10 x1.length k10]] := h
  refine zNSR (zl 0 0 h rfl ?_)
  obtain ⟨r1, hr3, hF⟩ := qd hF
  refine qak r1 h call131 (qij (qfq y2 (h.oldS s10) (h.oldS s11)) hr3) rfl rfl rfl rfl ?_
  intro w6 S2 p13 k13 h
  refine zp2 rfl (qb ?_)
  obtain ⟨o2, hF, hK2⟩ := qd hF
  refine qz (qT [(2, _), (7, _), (8, _), (9, _), (19, _), (20, _), (21, _), (27, _), (28, _), (29, _)] ⟨rfl, rfl, rfl, rfl, rfl, rfl, rfl, rfl, rfl, rfl, trivial⟩ ?_)
  refine qH (fun m e w' => ∃ (S3 : Nat → Prop) (p14 : Option Addr) (ln2 : Nat) (k14 : Nat) (x2 : (List qbh)) (i2 : Int), qa8 first i1 y2 r1 m x2 i2 = some o2 ∧ e = [(2, .int .i64 first), (7, .slice p14 ln2 k14), (8, .int .i64 i1), (9, .pointer (some ⟨bb3, 0, none⟩)), (19, .slice p8 y1.Arcs.length k8), (20, .int .i64 (y1.Arcs.length : Int)), (21, .int .i64 i1), (27, .slice p13 r1.length k13), (28, .int .i64 (r1.length : Int)), (29, .int .i64 i2)] ∧ SH w w' [Ch.own S2 (r1 : List qR) [.slice p13 r1.length k13], Ch.box bb3 [.int .i64 y2.Kind, .int .i64 y2.From, .int .i64 y2.To, .int .i64 y2.Sense, .slice p11 y2.Delay.length k11, .slice p12 y2.Slew.length k12] 159, Ch.own S3 (x2 : List qbh) [.slice p14 ln2 k14]]) m1 ⟨_, _, _, _, _, _, hF, rfl, h⟩ ?_
  rintro m2 e2 w7 ⟨S3, p14, ln2, k14, x2, i2, hF, rfl, h⟩
  obtain rfl := (h.sl 2 rfl).2
  rcases m2 with _ | m2
  ·rw [qa8] at hF
   cases hF
  rw [qa8] at hF
  refine zSR (zp1 rfl (zNS ?_))
  refine qq rfl hF ?_ ?_ <;> intro hF
  ·refine zKSBSR ?_
   obtain ⟨y3, hy3, hF⟩ := qd hF
   have he3 := qg hy3
   obtain ⟨b3, o_3, q3, cs5, hp3, hq3, -, hr4, hc5⟩ := (h.sl 0 rfl).1.at hy3
   obtain rfl := qmL hr4
   refine zx hp3 hq3 ⟨he3.1, qa0 he3.2.1 (h.sl 0 rfl).2⟩ rfl (zc 0 hc5 rfl (qU qc h rfl rfl rfl ?_))
   intro w8 bb4 h
   refine zs 0 h rfl ?_
   intro w9 h
   refine qb (qE (zp3 rfl (zl 2 1 h rfl (zp2 rfl ?_))))
   refine r_v (qqD (iv := 0) qc rfl rfl (by decide) ⟨rfl, rfl⟩ rfl rfl) rfl ?_
   refine zl 0 0 h rfl (zp3 rfl (zl 2 2 h rfl (zp2 rfl ?_)))
   refine r_v (qqD (iv := 1) qc rfl rfl (by decide) ⟨rfl, rfl⟩ rfl rfl) rfl ?_
   refine zl 0 1 h rfl (zp2 rfl (r_v (qgr qc [0, 1, 2, 3] [.tmp 41, .tmp 49, .const (.int .i64 (1)), .tmp 50] rfl rfl rfl rfl rfl rfl rfl rfl) rfl (qaP qc [.tmp 51] _ ([(⟨W64 ((W64 (2 * (W64 (first + y2.From)))) + y3.e0), W64 ((W64 (2 * (W64 (first + y2.To)))) + y3.e1), 1, i1⟩ : qbh)] : List qbh) h rfl rfl rfl rfl rfl rfl rfl rfl rfl ⟨(qmv (⟨W64 ((W64 (2 * (W64 (first + y2.From)))) + y3.e0), W64 ((W64 (2 * (W64 (first + y2.To)))) + y3.e1), 1, i1⟩ : qbh)), trivial⟩ rfl ?_)))
   intro w10 p15 S4 h
   obtain ⟨x3, hx1, hF⟩ := qd hF
   obtain ⟨g1, hx1⟩ := qbr hx1
   refine qeq qc 4 h rfl (h.sl 0 rfl).1 (h.sl 0 rfl).2 rfl rfl rfl rfl rfl rfl rfl rfl rfl g1 hx1 rfl ?_
   intro w11 p16 k15 S5 h
   refine zp1 rfl (zNER (zp2 rfl (qb ?_)))
   replace h := h.pick [2, 3, 4] rfl
   exact qA m2 [(2, _), (7, _), (8, _), (9, _), (19, _), (20, _), (21, _), (27, _), (28, _), (29, _)] (Nat.lt_succ_self m2) ⟨rfl, rfl, rfl, rfl, rfl, rfl, rfl, rfl, rfl, rfl, trivial⟩ ⟨_, _, _, _, _, _, hF, rfl, h⟩
  refine qI rfl ?_
  obtain rfl := qj hF; replace hF := hK2
  refine qfL (qE (zp2 rfl (qb ?_)))
  replace h := h.pick [2] rfl
  exact qA m1 [(2, _), (7, _), (19, _), (20, _), (21, _)] (Nat.lt_succ_self m1) ⟨rfl, rfl, rfl, rfl, rfl, trivial⟩ ⟨_, _, _, _, _, _, hF, rfl, h⟩
 refine qI rfl ?_
 obtain rfl := qj hF; replace hF := hK1
 refine zSR (zp2 rfl (qb ?_))
 obtain rfl := qj hF
 exact qap qc (ρ := (List qbh)) [GoT.v (List qbh) [.slice p10 x1.length k10]] h ⟨rfl, trivial⟩ (PV.done h (qav (qaz 0 h rfl)))

def qf8 (_ : Nat) (s : (List Int)) : Option (List Int) :=
 appS ([] : List Int) s

theorem qiR {n : Nat} {w : World} {s : (List Int)} {cs1 : List Value} (ha1 : GoT.R w (old w) s cs1) {r : (List Int)} (hF : qf8 n s = some r) : RetV Tryz.prog 132 [GoT.v (List Int) cs1] w r := by
 obtain ⟨p, k, rfl, s1⟩ := ha1
 obtain ⟨g1, hx⟩ := qbr (show appS ([] : List Int) s = some r from hF)
 cases p with
 | none =>
  obtain rfl := qpB s1
  obtain rfl : [] = r := hx
  refine qe Tryz.func132 rfl (m := 8) rfl rfl (fun h => ?_)
  refine zSR (zp1 rfl (zNSSR (zp1 rfl (r_v (qnB qc rfl rfl rfl rfl rfl) rfl (qb (qef rfl rfl (qbn ?_)))))))
  exact qE (zp1 rfl (qb (qap qc (ρ := (List Int)) [GoT.v (List Int) [.slice none 0 0]] h ⟨rfl, trivial⟩ (PV.done h (qav qmR)))))
 | some a =>
  refine qe Tryz.func132 rfl (m := 8) rfl rfl (fun h => ?_)
  refine zSR (zp1 rfl (zNSSR (zp1 rfl (r_v (qnB qc rfl rfl rfl rfl rfl) rfl (qb (qc3 rfl rfl (qd4 ?_)))))))
  refine zSR (qaP qc [] _ ([] : List Int) h rfl rfl rfl rfl rfl rfl rfl rfl rfl trivial rfl ?_)
  intro w1 p1 S1 h
  refine zp1 rfl (qqE qc 0 h rfl (h.oldS s1) rfl rfl rfl rfl rfl rfl rfl rfl rfl rfl g1 rfl ?_)
  intro w2 p2 k2 S2 h
  rw [hx] at h
  exact zp1 rfl (qb (qap qc (ρ := (List Int)) [GoT.v (List Int) [.slice p2 (([] : List Int).length + s.length) k2]] h ⟨rfl, trivial⟩ (PV.done h (qav (qaz 0 h rfl)))))

def qaE (net : Int) (r1 : (List Tplace)) : Nat → (List Int) → Int → Option ((List Int) × Int)
 | 0, _, _ => none
 | n + 1, x1, i1 =>
  bif decide (i1 < (r1.length : Int)) then
   (idx r1 i1).bind fun y1 =>
   bif (y1.net == net) then
    bif (!y1.drives) then
     (appS x1 ([i1] : List Int)).bind fun x2 =>
     qaE net r1 n x2 (W64 (i1 + 1))
    else
     qaE net r1 n x1 (W64 (i1 + 1))
   else
    qaE net r1 n x1 (W64 (i1 + 1))
  else
   some (x1, i1)

def qen (n : Nat) (d : qk) (net : Int) : Option (List Int) :=
 (qbR n d).bind fun r1 =>
 (qaE net r1 n ([] : List Int) 0).bind fun o => match o with
 | (x1, _) =>
  some x1

theorem qi8 {n : Nat} {w : World} {d : qk} {net : Int} {cs1 : List Value} (ha1 : GoT.R w (old w) d cs1) {r : (List Int)} (hF : qen n d net = some r) : RetV Tryz.prog 133 [GoT.v qk cs1, .int .i64 net] w r := by
 obtain ⟨p1, k1, p2, k2, p3, k3, rfl, s1, s2, s3⟩ := qan ha1
 refine qe Tryz.func133 rfl (m := 31) rfl rfl (fun h => ?_)
 rw [qen] at hF
 refine zSR (qM h rfl rfl ?_)
 intro w1 bb1 h
 refine zp1 rfl (zNSR (zp1 rfl (zNSSR (zl 0 0 h rfl ?_))))
 obtain ⟨r1, hr1, hF⟩ := qd hF
 refine qak r1 h call76 (qdZ (h.old ha1) hr1) rfl rfl rfl rfl ?_
 intro w2 S1 p4 k4 h
 refine zp2 rfl (qb ?_)
 replace h := h.nil (α := Int)
 obtain ⟨o1, hF, hK1⟩ := qd hF
 refine qz ?_
 replace h := h.pick [0, 1] rfl
 refine qT [(1, _), (5, _), (9, _), (10, _), (11, _)] ⟨rfl, rfl, rfl, rfl, rfl, trivial⟩ ?_
 refine qH (fun m e w' => ∃ (S2 : Nat → Prop) (p5 : Option Addr) (ln1 : Nat) (k5 : Nat) (x1 : (List Int)) (i1 : Int), qaE net r1 m x1 i1 = some o1 ∧ e = [(1, .int .i64 net), (5, .slice p5 ln1 k5), (9, .slice p4 r1.length k4), (10, .int .i64 (r1.length : Int)), (11, .int .i64 i1)] ∧ SH w w' [Ch.own S2 (x1 : List Int) [.slice p5 ln1 k5], Ch.own S1 (r1 : List Tplace) [.slice p4 r1.length k4]]) n ⟨_, _, _, _, _, _, hF, rfl, h⟩ ?_
 rintro m1 e1 w3 ⟨S2, p5, ln1, k5, x1, i1, hF, rfl, h⟩
 obtain rfl := (h.sl 0 rfl).2
 rcases m1 with _ | m1
 ·rw [qaE] at hF
  cases hF
 rw [qaE] at hF
 refine zSR (zp1 rfl (zNS ?_))
 refine qq rfl hF ?_ ?_ <;> intro hF
 ·refine zKSBSR (zp1 rfl ?_)
  obtain ⟨y1, hy1, hF⟩ := qd hF
  have he1 := qg hy1
  obtain ⟨b1, o_1, q1, cs2, hp1, hq1, -, hr2, hc2⟩ := (h.sl 1 rfl).1.at hy1
  obtain rfl := qdh hr2
  refine zx hp1 hq1 ⟨he1.1, qa0 he1.2.1 (h.sl 1 rfl).2⟩ rfl (zc 0 hc2 rfl (qU qc h rfl rfl rfl ?_))
  intro w4 bb2 h
  refine zp1 rfl (zs 0 h rfl ?_)
  intro w5 h
  replace h : SH _ _ [Ch.box bb2 [.int .i64 y1.instance_, .int .i64 y1.pin, .int .i64 y1.net, .bool y1.drives] 97, Ch.own S2 (x1 : List Int) [.slice p5 x1.length k5], Ch.own S1 (r1 : List Tplace) [.slice p4 r1.length k4]] := h
  refine zNSR (zp1 rfl (zl 0 2 h rfl (zp3 rfl ?_)))
  by_cases hc3 : (y1.net == net) = true
  ·replace hF := bifT hc3 hF
   refine qC hc3 (t := 20) rfl (qa rfl (zp1 rfl (qa rfl (zl 0 3 h rfl (qa rfl (zp2 rfl (qb ?_)))))))
   refine qq rfl hF ?_ ?_ <;> intro hF
   ·refine qE (zp2 rfl (qaP qc [.tmp 26] _ ([i1] : List Int) h rfl rfl rfl rfl rfl rfl rfl rfl rfl ⟨rfl, trivial⟩ rfl ?_))
    intro w6 p6 S3 h
    obtain ⟨x2, hx1, hF⟩ := qd hF
    obtain ⟨g1, hx1⟩ := qbr hx1
    refine qeq qc 2 h rfl (h.sl 0 rfl).1 (h.sl 0 rfl).2 rfl rfl rfl rfl rfl rfl rfl rfl rfl g1 hx1 rfl ?_
    intro w7 p7 k6 S4 h
    refine zp1 rfl (zNER (zp2 rfl (qb ?_)))
    replace h := h.pick [2, 3] rfl
    exact qA m1 [(1, _), (5, _), (9, _), (10, _), (11, _)] (Nat.lt_succ_self m1) ⟨rfl, rfl, rfl, rfl, rfl, trivial⟩ ⟨_, _, _, _, _, _, hF, rfl, h⟩
   refine zKER (zp2 rfl (qb ?_))
   replace h := h.pick [1, 2] rfl
   exact qA m1 [(1, _), (5, _), (9, _), (10, _), (11, _)] (Nat.lt_succ_self m1) ⟨rfl, rfl, rfl, rfl, rfl, trivial⟩ ⟨_, _, _, _, _, _, hF, rfl, h⟩
  replace hc3 := zb hc3
  replace hF := bifF hc3 hF
  refine qB hc3 (t := 20) rfl (zn3 rfl (zp1 rfl (qb (qc3 rfl rfl (zKER (zp2 rfl ?_))))))
  refine qb ?_
  replace h := h.pick [1, 2] rfl
  exact qA m1 [(1, _), (5, _), (9, _), (10, _), (11, _)] (Nat.lt_succ_self m1) ⟨rfl, rfl, rfl, rfl, rfl, trivial⟩ ⟨_, _, _, _, _, _, hF, rfl, h⟩
 refine qI rfl ?_
 obtain rfl := qj hF; replace hF := hK1
 refine zSR (zp2 rfl (qb ?_))
 obtain rfl := qj hF
 exact qap qc (ρ := (List Int)) [GoT.v (List Int) [.slice p5 x1.length k5]] h ⟨rfl, trivial⟩ (PV.done h (qav (qaz 0 h rfl)))

def qec (_ : Nat) (d : qk) (l : qt) (p : Tplace) : Option Int :=
 bif decide (p.instance_ < 0) then
  some 0
 else
  (idx d.Instances p.instance_).bind fun y1 =>
  (idx l.Cells y1.Cell).bind fun y2 =>
  (idx y2.Pins p.pin).bind fun y3 =>
  some y3.Cap

theorem qiV {n : Nat} {w : World} {d : qk} {l : qt} {p : Tplace} {cs1 : List Value} (ha1 : GoT.R w (old w) d cs1) {cs2 : List Value} (ha2 : GoT.R w (old w) l cs2) {cs3 : List Value} (ha3 : GoT.R w (old w) p cs3) {r : Int} (hF : qec n d l p = some r) : RetV Tryz.prog 134 [GoT.v qk cs1, GoT.v qt cs2, GoT.v Tplace cs3] w r := by
 obtain ⟨p1, k1, p2, k2, p3, k3, rfl, s1, s2, s3⟩ := qan ha1
 obtain ⟨p4, k4, rfl, s4⟩ := qbu ha2
 obtain rfl := qdh ha3
 refine qe Tryz.func134 rfl (m := 27) rfl rfl (fun h => ?_)
 rw [qec] at hF
 refine zSR (qM h rfl rfl ?_)
 intro w1 bb1 h
 refine qM h rfl rfl ?_
 intro w2 bb2 h
 refine qM h rfl rfl ?_
 intro w3 bb3 h
 refine zp1 rfl (zNSSR (zp1 rfl (zl 0 0 h rfl (zp1 rfl (qb ?_)))))
 refine qq rfl hF ?_ ?_ <;> intro hF
 ·exact zSR (zp1 rfl (qb (qaB qc h hF ⟨rfl, trivial⟩)))
 refine zKS ?_
 refine qco rfl (by kernel_rfl) ?_
 refine zd1 rfl ?_
 refine zdl 1 0 h rfl ?_
 refine zd1 rfl ?_
 refine zdl 2 0 h rfl ?_
 refine zd1 rfl ?_
 refine zdl 0 0 h rfl ?_
 obtain ⟨y1, hy1, hF⟩ := qd hF
 have he1 := qg hy1
 obtain ⟨b1, o_1, q1, cs4, hp1, hq1, -, hr1, hc2⟩ := s1.at hy1
 obtain ⟨p5, k5, rfl, s5⟩ := qX hr1
 refine zdxe hp1 hq1 he1 rfl ?_
 refine zd1 rfl ?_
 refine zdc 1 (hc2.below h.below) rfl ?_
 obtain ⟨y2, hy2, hF⟩ := qd hF
 have he2 := qg hy2
 obtain ⟨b2, o_2, q2, cs5, hp2, hq2, -, hr2, hc3⟩ := s4.at hy2
 obtain ⟨p6, k6, p7, k7, p8, k8, rfl, s6, s7, s8⟩ := qV hr2
 refine zdxe hp2 hq2 he2 rfl ?_
 refine zd1 rfl ?_
 refine zdc 2 (hc3.below h.below) rfl ?_
 refine zd1 rfl ?_
 refine zdl 0 1 h rfl ?_
 obtain ⟨y3, hy3, hF⟩ := qd hF
 have he3 := qg hy3
 obtain ⟨b3, o_3, q3, cs6, hp3, hq3, -, hr3, hc4⟩ := s6.at hy3
 obtain rfl := qbq hr3
 refine zdxe hp3 hq3 he3 rfl ?_
 refine zd1 rfl ?_
 refine zdc 2 (hc4.below h.below) rfl ?_
 refine zd1 rfl ?_
 refine qaX (fun w4 hb => ?_)
 replace h := h.ext hb
 clear hb
 exact qaB qc h hF ⟨rfl, trivial⟩

def qa9 (y1 : qad) : Nat → (List Int) → Int → Option ((List Int) × Int)
 | 0, _, _ => none
 | n + 1, x2, i2 =>
  bif decide (i2 > 0) then
   (idx y1.Parent i2).bind fun y7 =>
   (idx x2 y7).bind fun y8 =>
   (idx x2 i2).bind fun y9 =>
   (idx x2 y7).bind fun _ =>
   qa9 y1 n (setS x2 y7 (W64 (y8 + y9))) (W64 (i2 - 1))
  else
   some (x2, i2)

def qa7 (a_0 : qy) (y1 : qad) (r2 : (List Tplace)) (r3 : (List Int)) : Nat → (List Int) → Int → Option ((List Int) × Int)
 | 0, _, _ => none
 | n + 1, x1, i1 =>
  bif decide (i1 < (r3.length : Int)) then
   (idx r3 i1).bind fun y2 =>
   (idx y1.Sink i1).bind fun y3 =>
   (idx x1 y3).bind fun y4 =>
   (idx r2 y2).bind fun y5 =>
   (qec n (⟨a_0.Design.Instances, a_0.Design.Nets, a_0.Design.Ports⟩ : qk) (⟨a_0.Library.Cells⟩ : qt) y5).bind fun r4 =>
   (idx x1 y3).bind fun _ =>
   qa7 a_0 y1 r2 r3 n (setS x1 y3 (W64 (y4 + r4))) (W64 (i1 + 1))
  else
   some (x1, i1)

def qcs (n : Nat) (a_0 : qy) (a_1 : Int) : Option (List Int) :=
 (idx a_0.Wires a_1).bind fun y1 =>
 (qf8 n y1.Cap).bind fun r1 =>
 (qbR n (⟨a_0.Design.Instances, a_0.Design.Nets, a_0.Design.Ports⟩ : qk)).bind fun r2 =>
 (qen n (⟨a_0.Design.Instances, a_0.Design.Nets, a_0.Design.Ports⟩ : qk) a_1).bind fun r3 =>
 (qa7 a_0 y1 r2 r3 n r1 0).bind fun o => match o with
 | (x1, _) =>
  (qa9 y1 n x1 (W64 ((r1.length : Int) - 1))).bind fun o => match o with
  | (x2, _) =>
   some x2

theorem qeL {n : Nat} {w : World} {a_0 : qy} {a_1 : Int} {cs1 : List Value} (ha1 : GoT.R w (old w) a_0 cs1) {r : (List Int)} (hF : qcs n a_0 a_1 = some r) : RetV Tryz.prog 80 [GoT.v qy cs1, .int .i64 a_1] w r := by
 obtain ⟨p1, k1, p2, k2, p3, k3, p4, k4, p5, k5, rfl, s1, s2, s3, s4, s5⟩ := qas ha1
 refine qe Tryz.func80 rfl (m := 74) rfl rfl (fun h => ?_)
 rw [qcs] at hF
 refine zSR (qM h rfl rfl ?_)
 intro w1 bb1 h
 refine zp1 rfl (zNSR (zp1 rfl (zl 0 4 h rfl (zp1 rfl ?_))))
 obtain ⟨y1, hy1, hF⟩ := qd hF
 have he1 := qg hy1
 obtain ⟨b1, o_1, q1, cs2, hp1, hq1, -, hr1, hc1⟩ := s5.at hy1
 obtain ⟨p6, k6, p7, k7, p8, k8, p9, k9, rfl, s6, s7, s8, s9⟩ := qbI hr1
 refine zxe hp1 hq1 he1 rfl (zc 0 (hc1.below h.below) rfl (qU qc h rfl rfl rfl ?_))
 intro w2 bb2 h
 refine zs 0 h rfl ?_
 intro w3 h
 refine zNSR (zp1 rfl (zl 0 2 h rfl ?_))
 obtain ⟨r1, hr2, hF⟩ := qd hF
 refine qak r1 h call132 (qiR ⟨_, _, rfl, (h.oldS s8)⟩ hr2) rfl rfl rfl rfl ?_
 intro w4 S1 p10 k10 h
 refine zp1 rfl (zNSR (zp1 rfl (zl 2 1 h rfl ?_)))
 obtain ⟨r2, hr3, hF⟩ := qd hF
 refine qak r2 h call76 (qdZ (qba (⟨a_0.Design.Instances, a_0.Design.Nets, a_0.Design.Ports⟩ : qk) (h.oldS s2) (h.oldS s3) (h.oldS s4)) hr3) rfl rfl rfl rfl ?_
 intro w5 S2 p11 k11 h
 refine zp1 rfl (zNSSR (zp1 rfl (zl 3 1 h rfl (zp1 rfl ?_))))
 obtain ⟨r3, hr4, hF⟩ := qd hF
 refine qak r3 h call133 (qi8 (qba (⟨a_0.Design.Instances, a_0.Design.Nets, a_0.Design.Ports⟩ : qk) (h.oldS s2) (h.oldS s3) (h.oldS s4)) hr4) rfl rfl rfl rfl ?_
 intro w6 S3 p12 k12 h
 refine zp2 rfl (qb ?_)
 obtain ⟨o1, hF, hK1⟩ := qd hF
 refine qz (qT [(2, _), (5, _), (6, _), (7, _), (25, _), (26, _), (27, _)] ⟨rfl, rfl, rfl, rfl, rfl, rfl, rfl, trivial⟩ ?_)
 refine qH (fun m e w' => ∃ (x1 : (List Int)) (i1 : Int), qa7 a_0 y1 r2 r3 m x1 i1 = some o1 ∧ e = [(2, .pointer (some ⟨bb1, 0, none⟩)), (5, .pointer (some ⟨bb2, 0, none⟩)), (6, .slice p10 r1.length k10), (7, .slice p11 r2.length k11), (25, .slice p12 r3.length k12), (26, .int .i64 (r3.length : Int)), (27, .int .i64 i1)] ∧ SH w w' [Ch.own S3 (r3 : List Int) [.slice p12 r3.length k12], Ch.own S2 (r2 : List Tplace) [.slice p11 r2.length k11], Ch.own S1 (x1 : List Int) [.slice p10 r1.length k10], Ch.box bb2 [.slice p6 y1.Parent.length k6, .slice p7 y1.Res.length k7, .slice p8 y1.Cap.length k8, .slice p9 y1.Sink.length k9] 117, Ch.box bb1 [.slice p1 a_0.Library.Cells.length k1, .slice p2 a_0.Design.Instances.length k2, .slice p3 a_0.Design.Nets.length k3, .slice p4 a_0.Design.Ports.length k4, .slice p5 a_0.Wires.length k5] 48]) n ⟨_, _, hF, rfl, h⟩ ?_
 rintro m1 e1 w7 ⟨x1, i1, hF, rfl, h⟩
 rcases m1 with _ | m1
 ·rw [qa7] at hF
  cases hF
 rw [qa7] at hF
 refine zSR (zp1 rfl (zNS ?_))
 refine qq rfl hF ?_ ?_ <;> intro hF
 ·refine zKSBSR (zp1 rfl ?_)
  obtain ⟨y2, hy2, hF⟩ := qd hF
  have he2 := qg hy2
  obtain ⟨b2, o_2, q2, cs3, hp2, hq2, -, hr5, hc3⟩ := (h.sl 0 rfl).1.at hy2
  obtain rfl := hr5
  refine zx hp2 hq2 ⟨he2.1, qa0 he2.2.1 (h.sl 0 rfl).2⟩ rfl (zc 0 hc3 rfl (zp2 rfl (qb ?_)))
  refine qeO [19] (fun w' => SH w w' [Ch.own S2 (r2 : List Tplace) [.slice p11 r2.length k11], Ch.own S1 (x1 : List Int) [.slice p10 r1.length k10], Ch.box bb2 [.slice p6 y1.Parent.length k6, .slice p7 y1.Res.length k7, .slice p8 y1.Cap.length k8, .slice p9 y1.Sink.length k9] 117, Ch.box bb1 [.slice p1 a_0.Library.Cells.length k1, .slice p2 a_0.Design.Instances.length k2, .slice p3 a_0.Design.Nets.length k3, .slice p4 a_0.Design.Ports.length k4, .slice p5 a_0.Wires.length k5] 48]) rfl 20 rfl #[ff, ff, ff, ff, ff, ff, ff, ff, ff, ff, ff, ff, ff, ff, ff, ff, ff, ff, ff, ff] (by kernel_rfl) (fun w8 hb => ?_)
  replace h := h.ext hb
  clear hb
  refine qi 0 rfl #[tt, ff, ff, ff, ff, ff, ff, ff, ff, ff, ff, ff, ff, ff, ff, ff, ff, ff, ff, ff] (by kernel_rfl) (by kernel_rfl) (fun w' hw => v_p qc rfl w') (h.pick [1, 2, 3, 4] rfl) rfl ?_
  refine qi 1 rfl #[tt, tt, ff, ff, ff, ff, ff, ff, ff, ff, ff, ff, ff, ff, ff, ff, ff, ff, ff, ff] (by kernel_rfl) (by kernel_rfl) (fun w' hw => v_p qc rfl w') (h.pick [1, 2, 3, 4] rfl) rfl ?_
  refine qi 2 rfl #[tt, tt, tt, ff, ff, ff, ff, ff, ff, ff, ff, ff, ff, ff, ff, ff, ff, ff, ff, ff] (by kernel_rfl) (by kernel_rfl) (fun w' hw => qbj qc (hw.box 2 rfl) (j := 3) rfl rfl rfl) (h.pick [1, 2, 3, 4] rfl) rfl ?_
  refine qi 3 rfl #[tt, tt, tt, tt, ff, ff, ff, ff, ff, ff, ff, ff, ff, ff, ff, ff, ff, ff, ff, ff] (by kernel_rfl) (by kernel_rfl) (fun w' hw => v_p qc rfl w') (h.pick [1, 2, 3, 4] rfl) rfl ?_
  obtain ⟨y3, hy3, hF⟩ := qd hF
  have he3 := qg hy3
  obtain ⟨b3, o_3, q3, cs4, hp3, hq3, -, hr6, hc4⟩ := s9.at hy3
  obtain rfl := hr6
  refine qi 4 rfl #[tt, tt, tt, tt, tt, ff, ff, ff, ff, ff, ff, ff, ff, ff, ff, ff, ff, ff, ff, ff] (by kernel_rfl) (by kernel_rfl) (fun w' hw => qe3 qc hp3 hq3 ⟨he3.1, he3.2.1⟩ rfl rfl rfl rfl rfl rfl) (h.pick [1, 2, 3, 4] rfl) rfl ?_
  refine qi 5 rfl #[tt, tt, tt, tt, tt, tt, ff, ff, ff, ff, ff, ff, ff, ff, ff, ff, ff, ff, ff, ff] (by kernel_rfl) (by kernel_rfl) (fun w' hw => qbj qc (hc4.below hw.below) (j := 0) rfl rfl rfl) (h.pick [1, 2, 3, 4] rfl) rfl ?_
  obtain ⟨y4, hy4, hF⟩ := qd hF
  have he4 := qg hy4
  obtain ⟨b4, o_4, q4, cs5, hp4, hq4, -, hr7, hc5⟩ := (h.sl 2 rfl).1.at hy4
  obtain rfl := hr7
  refine qi 6 rfl #[tt, tt, tt, tt, tt, tt, tt, ff, ff, ff, ff, ff, ff, ff, ff, ff, ff, ff, ff, ff] (by kernel_rfl) (by kernel_rfl) (fun w' hw => qe3 qc hp4 hq4 ⟨he4.1, qa0 he4.2.1 (h.sl 2 rfl).2⟩ rfl rfl rfl rfl rfl rfl) (h.pick [1, 2, 3, 4] rfl) rfl ?_
  refine qi 7 rfl #[tt, tt, tt, tt, tt, tt, tt, tt, ff, ff, ff, ff, ff, ff, ff, ff, ff, ff, ff, ff] (by kernel_rfl) (by kernel_rfl) (fun w' hw => qbj qc (qgS (w1 := w) (S1 := fun _ => False) hw 1 rfl hy4 hp4 hq4 rfl) (j := 0) rfl rfl rfl) (h.pick [1, 2, 3, 4] rfl) rfl ?_
  refine qi 8 rfl #[tt, tt, tt, tt, tt, tt, tt, tt, tt, ff, ff, ff, ff, ff, ff, ff, ff, ff, ff, ff] (by kernel_rfl) (by kernel_rfl) (fun w' hw => v_p qc rfl w') (h.pick [1, 2, 3, 4] rfl) rfl ?_
  refine qi 9 rfl #[tt, tt, tt, tt, tt, tt, tt, tt, tt, tt, ff, ff, ff, ff, ff, ff, ff, ff, ff, ff] (by kernel_rfl) (by kernel_rfl) (fun w' hw => qbj qc (hw.box 3 rfl) (j := 1) rfl rfl rfl) (h.pick [1, 2, 3, 4] rfl) rfl ?_
  refine qi 10 rfl #[tt, tt, tt, tt, tt, tt, tt, tt, tt, tt, tt, ff, ff, ff, ff, ff, ff, ff, ff, ff] (by kernel_rfl) (by kernel_rfl) (fun w' hw => v_p qc rfl w') (h.pick [1, 2, 3, 4] rfl) rfl ?_
  refine qi 11 rfl #[tt, tt, tt, tt, tt, tt, tt, tt, tt, tt, tt, tt, ff, ff, ff, ff, ff, ff, ff, ff] (by kernel_rfl) (by kernel_rfl) (fun w' hw => qbj qc (hw.box 3 rfl) (j := 0) rfl rfl rfl) (h.pick [1, 2, 3, 4] rfl) rfl ?_
  refine qi 12 rfl #[tt, tt, tt, tt, tt, tt, tt, tt, tt, tt, tt, tt, tt, ff, ff, ff, ff, ff, ff, ff] (by kernel_rfl) (by kernel_rfl) (fun w' hw => v_p qc rfl w') (h.pick [1, 2, 3, 4] rfl) rfl ?_
  refine qi 13 rfl #[tt, tt, tt, tt, tt, tt, tt, tt, tt, tt, tt, tt, tt, tt, ff, ff, ff, ff, ff, ff] (by kernel_rfl) (by kernel_rfl) (fun w' hw => v_p qc rfl w') (h.pick [1, 2, 3, 4] rfl) rfl ?_
  obtain ⟨y5, hy5, hF⟩ := qd hF
  have he5 := qg hy5
  obtain ⟨b5, o_5, q5, cs6, hp5, hq5, -, hr8, hc6⟩ := (h.sl 1 rfl).1.at hy5
  obtain rfl := qdh hr8
  refine qi 14 rfl #[tt, tt, tt, tt, tt, tt, tt, tt, tt, tt, tt, tt, tt, tt, tt, ff, ff, ff, ff, ff] (by kernel_rfl) (by kernel_rfl) (fun w' hw => qe3 qc hp5 hq5 ⟨he5.1, qa0 he5.2.1 (h.sl 1 rfl).2⟩ rfl rfl rfl rfl rfl rfl) (h.pick [1, 2, 3, 4] rfl) rfl ?_
  refine qi 15 rfl #[tt, tt, tt, tt, tt, tt, tt, tt, tt, tt, tt, tt, tt, tt, tt, tt, ff, ff, ff, ff] (by kernel_rfl) (by kernel_rfl) (fun w' hw => qbj qc (qgS hw 0 rfl hy5 hp5 hq5 (qgT (w := w) (S := fun _ => False) y5)) (j := 0) rfl rfl rfl) (h.pick [1, 2, 3, 4] rfl) rfl ?_
  refine qab 16 rfl #[tt, tt, tt, tt, tt, tt, tt, tt, tt, tt, tt, tt, tt, tt, tt, tt, tt, ff, ff, ff] (by kernel_rfl) (by kernel_rfl) ?_
  obtain ⟨r4, hr9, hF⟩ := qd hF
  refine qQ r4 h call134 (qiV (qba (⟨a_0.Design.Instances, a_0.Design.Nets, a_0.Design.Ports⟩ : qk) (h.oldS s2) (h.oldS s3) (h.oldS s4)) (qdc (⟨a_0.Library.Cells⟩ : qt) (h.oldS s1)) (qgT y5) hr9) rfl rfl rfl rfl ?_
  intro w9 h
  refine qW (fun _ => (h.pick [1, 2, 3, 4] rfl)) ?_
  refine qi 17 rfl #[tt, tt, tt, tt, tt, tt, tt, tt, tt, tt, tt, tt, tt, tt, tt, tt, tt, tt, ff, ff] (by kernel_rfl) (by kernel_rfl) (fun w' hw => v_p qc rfl w') (h.pick [1, 2, 3, 4] rfl) rfl ?_
  obtain ⟨y6, hy6, hF⟩ := qd hF
  have he6 := qg hy6
  obtain ⟨b6, o_6, q6, cs7, hp6, hq6, -, hr10, hc7⟩ := (h.sl 2 rfl).1.at hy6
  obtain rfl := hr10
  refine qi 18 rfl #[tt, tt, tt, tt, tt, tt, tt, tt, tt, tt, tt, tt, tt, tt, tt, tt, tt, tt, tt, ff] (by kernel_rfl) (by kernel_rfl) (fun w' hw => qe3 qc hp6 hq6 ⟨he6.1, qa0 he6.2.1 (h.sl 2 rfl).2⟩ rfl rfl rfl rfl rfl rfl) (h.pick [1, 2, 3, 4] rfl) rfl ?_
  refine qab 19 rfl #[tt, tt, tt, tt, tt, tt, tt, tt, tt, tt, tt, tt, tt, tt, tt, tt, tt, tt, tt, tt] (by kernel_rfl) (by kernel_rfl) ?_
  refine qfj qc 2 0 (W64 (y4 + r4)) h rfl hy6 hp6 hq6 rfl hc7 rfl rfl rfl rfl rfl rfl rfl ?_
  intro w10 h
  refine qW (fun hs => absurd (hs 19 (by decide)) (by decide)) ?_
  refine qcp (by kernel_rfl) ?_
  exact qfL (qE (zp2 rfl (qb (qA m1 [(2, _), (5, _), (6, _), (7, _), (25, _), (26, _), (27, _)] (Nat.lt_succ_self m1) ⟨rfl, rfl, rfl, rfl, rfl, rfl, rfl, trivial⟩ ⟨_, _, hF, rfl, h⟩))))
 refine qI rfl ?_
 obtain rfl := qj hF; replace hF := hK1
 refine zSSR (zp4 rfl (qb ?_))
 obtain ⟨o2, hF, hK2⟩ := qd hF
 refine qz ?_
 replace h := h.pick [2, 3] rfl
 refine qT [(5, _), (6, _), (10, _)] ⟨rfl, rfl, rfl, trivial⟩ ?_
 refine qH (fun m e w' => ∃ (x2 : (List Int)) (i2 : Int), qa9 y1 m x2 i2 = some o2 ∧ e = [(5, .pointer (some ⟨bb2, 0, none⟩)), (6, .slice p10 r1.length k10), (10, .int .i64 i2)] ∧ SH w w' [Ch.own S1 (x2 : List Int) [.slice p10 r1.length k10], Ch.box bb2 [.slice p6 y1.Parent.length k6, .slice p7 y1.Res.length k7, .slice p8 y1.Cap.length k8, .slice p9 y1.Sink.length k9] 117]) n ⟨_, _, hF, rfl, h⟩ ?_
 rintro m2 e2 w11 ⟨x2, i2, hF, rfl, h⟩
 rcases m2 with _ | m2
 ·rw [qa9] at hF
  cases hF
 rw [qa9] at hF
 refine zSSR (zp2 rfl (qb ?_))
 refine qq rfl hF ?_ ?_ <;> intro hF
 ·refine zKSB ?_
  refine qeO [14] (fun w' => SH w w' [Ch.own S1 (x2 : List Int) [.slice p10 r1.length k10], Ch.box bb2 [.slice p6 y1.Parent.length k6, .slice p7 y1.Res.length k7, .slice p8 y1.Cap.length k8, .slice p9 y1.Sink.length k9] 117]) rfl 15 rfl #[ff, ff, ff, ff, ff, ff, ff, ff, ff, ff, ff, ff, ff, ff, ff] (by kernel_rfl) (fun w12 hb => ?_)
  replace h := h.ext hb
  clear hb
  refine qi 0 rfl #[tt, ff, ff, ff, ff, ff, ff, ff, ff, ff, ff, ff, ff, ff, ff] (by kernel_rfl) (by kernel_rfl) (fun w' hw => v_p qc rfl w') (h.pick [0, 1] rfl) rfl ?_
  refine qi 1 rfl #[tt, tt, ff, ff, ff, ff, ff, ff, ff, ff, ff, ff, ff, ff, ff] (by kernel_rfl) (by kernel_rfl) (fun w' hw => v_p qc rfl w') (h.pick [0, 1] rfl) rfl ?_
  refine qi 2 rfl #[tt, tt, tt, ff, ff, ff, ff, ff, ff, ff, ff, ff, ff, ff, ff] (by kernel_rfl) (by kernel_rfl) (fun w' hw => qbj qc (hw.box 1 rfl) (j := 0) rfl rfl rfl) (h.pick [0, 1] rfl) rfl ?_
  refine qi 3 rfl #[tt, tt, tt, tt, ff, ff, ff, ff, ff, ff, ff, ff, ff, ff, ff] (by kernel_rfl) (by kernel_rfl) (fun w' hw => v_p qc rfl w') (h.pick [0, 1] rfl) rfl ?_
  obtain ⟨y7, hy7, hF⟩ := qd hF
  have he7 := qg hy7
  obtain ⟨b7, o_7, q7, cs8, hp7, hq7, -, hr11, hc9⟩ := s6.at hy7
  obtain rfl := hr11
  refine qi 4 rfl #[tt, tt, tt, tt, tt, ff, ff, ff, ff, ff, ff, ff, ff, ff, ff] (by kernel_rfl) (by kernel_rfl) (fun w' hw => qe3 qc hp7 hq7 ⟨he7.1, he7.2.1⟩ rfl rfl rfl rfl rfl rfl) (h.pick [0, 1] rfl) rfl ?_
  refine qi 5 rfl #[tt, tt, tt, tt, tt, tt, ff, ff, ff, ff, ff, ff, ff, ff, ff] (by kernel_rfl) (by kernel_rfl) (fun w' hw => qbj qc (hc9.below hw.below) (j := 0) rfl rfl rfl) (h.pick [0, 1] rfl) rfl ?_
  obtain ⟨y8, hy8, hF⟩ := qd hF
  have he8 := qg hy8
  obtain ⟨b8, o_8, q8, cs9, hp8, hq8, -, hr12, hc10⟩ := (h.sl 0 rfl).1.at hy8
  obtain rfl := hr12
  refine qi 6 rfl #[tt, tt, tt, tt, tt, tt, tt, ff, ff, ff, ff, ff, ff, ff, ff] (by kernel_rfl) (by kernel_rfl) (fun w' hw => qe3 qc hp8 hq8 ⟨he8.1, qa0 he8.2.1 (h.sl 0 rfl).2⟩ rfl rfl rfl rfl rfl rfl) (h.pick [0, 1] rfl) rfl ?_
  refine qi 7 rfl #[tt, tt, tt, tt, tt, tt, tt, tt, ff, ff, ff, ff, ff, ff, ff] (by kernel_rfl) (by kernel_rfl) (fun w' hw => qbj qc (qgS (w1 := w) (S1 := fun _ => False) hw 0 rfl hy8 hp8 hq8 rfl) (j := 0) rfl rfl rfl) (h.pick [0, 1] rfl) rfl ?_
  refine qi 8 rfl #[tt, tt, tt, tt, tt, tt, tt, tt, tt, ff, ff, ff, ff, ff, ff] (by kernel_rfl) (by kernel_rfl) (fun w' hw => v_p qc rfl w') (h.pick [0, 1] rfl) rfl ?_
  refine qi 9 rfl #[tt, tt, tt, tt, tt, tt, tt, tt, tt, tt, ff, ff, ff, ff, ff] (by kernel_rfl) (by kernel_rfl) (fun w' hw => v_p qc rfl w') (h.pick [0, 1] rfl) rfl ?_
  obtain ⟨y9, hy9, hF⟩ := qd hF
  have he9 := qg hy9
  obtain ⟨b9, o_9, q9, cs10, hp9, hq9, -, hr13, hc11⟩ := (h.sl 0 rfl).1.at hy9
  obtain rfl := hr13
  refine qi 10 rfl #[tt, tt, tt, tt, tt, tt, tt, tt, tt, tt, tt, ff, ff, ff, ff] (by kernel_rfl) (by kernel_rfl) (fun w' hw => qe3 qc hp9 hq9 ⟨he9.1, qa0 he9.2.1 (h.sl 0 rfl).2⟩ rfl rfl rfl rfl rfl rfl) (h.pick [0, 1] rfl) rfl ?_
  refine qi 11 rfl #[tt, tt, tt, tt, tt, tt, tt, tt, tt, tt, tt, tt, ff, ff, ff] (by kernel_rfl) (by kernel_rfl) (fun w' hw => qbj qc (qgS (w1 := w) (S1 := fun _ => False) hw 0 rfl hy9 hp9 hq9 rfl) (j := 0) rfl rfl rfl) (h.pick [0, 1] rfl) rfl ?_
  refine qi 12 rfl #[tt, tt, tt, tt, tt, tt, tt, tt, tt, tt, tt, tt, tt, ff, ff] (by kernel_rfl) (by kernel_rfl) (fun w' hw => v_p qc rfl w') (h.pick [0, 1] rfl) rfl ?_
  obtain ⟨y10, hy10, hF⟩ := qd hF
  have he10 := qg hy10
  obtain ⟨b10, o_10, q10, cs11, hp10, hq10, -, hr14, hc12⟩ := (h.sl 0 rfl).1.at hy10
  obtain rfl := hr14
  refine qi 13 rfl #[tt, tt, tt, tt, tt, tt, tt, tt, tt, tt, tt, tt, tt, tt, ff] (by kernel_rfl) (by kernel_rfl) (fun w' hw => qe3 qc hp10 hq10 ⟨he10.1, qa0 he10.2.1 (h.sl 0 rfl).2⟩ rfl rfl rfl rfl rfl rfl) (h.pick [0, 1] rfl) rfl ?_
  refine qab 14 rfl #[tt, tt, tt, tt, tt, tt, tt, tt, tt, tt, tt, tt, tt, tt, tt] (by kernel_rfl) (by kernel_rfl) ?_
  refine qfj qc 0 0 (W64 (y8 + y9)) h rfl hy10 hp10 hq10 rfl hc12 rfl rfl rfl rfl rfl rfl rfl ?_
  intro w13 h
  refine qW (fun hs => absurd (hs 14 (by decide)) (by decide)) ?_
  refine qcp (by kernel_rfl) ?_
  exact qfL (qE (zp3 rfl (qb (qA m2 [(5, _), (6, _), (10, _)] (Nat.lt_succ_self m2) ⟨rfl, rfl, rfl, trivial⟩ ⟨_, _, hF, rfl, h⟩))))
 refine qI rfl ?_
 obtain rfl := qj hF; replace hF := hK2
 refine zSR (zp2 rfl (qb ?_))
 obtain rfl := qj hF
 exact qap qc (ρ := (List Int)) [GoT.v (List Int) [.slice p10 r1.length k10]] h ⟨rfl, trivial⟩ (PV.done h (qav (qaz 0 h rfl)))

def qaV (y1 : qad) (r1 : (List Int)) (x1 : (List Int)) : Nat → (List Int) → Int → Option ((List Int) × Int)
 | 0, _, _ => none
 | n + 1, x2, i1 =>
  bif decide (i1 < (x1.length : Int)) then
   (idx y1.Parent i1).bind fun y2 =>
   (idx x2 y2).bind fun y3 =>
   (idx y1.Res i1).bind fun y4 =>
   (idx r1 i1).bind fun y5 =>
   (idx x2 i1).bind fun _ =>
   qaV y1 r1 x1 n (setS x2 i1 (W64 (y3 + (W64 (y4 * y5))))) (W64 (i1 + 1))
  else
   some (x2, i1)

def qd2 (n : Nat) (b : qy) (net : Int) : Option (List Int) :=
 (idx b.Wires net).bind fun y1 =>
 (qcs n b net).bind fun r1 =>
 (mkS (r1.length : Int) (0 : Int)).bind fun x1 =>
 (qaV y1 r1 x1 n x1 1).bind fun o => match o with
 | (x2, _) =>
  some x2

theorem qia {n : Nat} {w : World} {b : qy} {net : Int} {cs1 : List Value} (ha1 : GoT.R w (old w) b cs1) {r : (List Int)} (hF : qd2 n b net = some r) : RetV Tryz.prog 135 [GoT.v qy cs1, .int .i64 net] w r := by
 obtain ⟨p1, k1, p2, k2, p3, k3, p4, k4, p5, k5, rfl, s1, s2, s3, s4, s5⟩ := qas ha1
 refine qe Tryz.func135 rfl (m := 49) rfl rfl (fun h => ?_)
 rw [qd2] at hF
 refine zSR (qM h rfl rfl ?_)
 intro w1 bb1 h
 refine zp1 rfl (zNS ?_)
 refine qeO [] (fun w' => SH w w' [Ch.box bb1 [.slice p1 b.Library.Cells.length k1, .slice p2 b.Design.Instances.length k2, .slice p3 b.Design.Nets.length k3, .slice p4 b.Design.Ports.length k4, .slice p5 b.Wires.length k5] 48]) rfl 11 rfl #[ff, ff, ff, ff, ff, ff, ff, ff, ff, ff, ff] (by kernel_rfl) (fun w2 hb => ?_)
 replace h := h.ext hb
 clear hb
 refine qi 0 rfl #[tt, ff, ff, ff, ff, ff, ff, ff, ff, ff, ff] (by kernel_rfl) (by kernel_rfl) (fun w' hw => v_p qc rfl w') (h.pick [0] rfl) rfl ?_
 refine qi 1 rfl #[tt, tt, ff, ff, ff, ff, ff, ff, ff, ff, ff] (by kernel_rfl) (by kernel_rfl) (fun w' hw => qbj qc (hw.box 0 rfl) (j := 4) rfl rfl rfl) (h.pick [0] rfl) rfl ?_
 refine qi 2 rfl #[tt, tt, tt, ff, ff, ff, ff, ff, ff, ff, ff] (by kernel_rfl) (by kernel_rfl) (fun w' hw => v_p qc rfl w') (h.pick [0] rfl) rfl ?_
 obtain ⟨y1, hy1, hF⟩ := qd hF
 have he1 := qg hy1
 obtain ⟨b1, o_1, q1, cs2, hp1, hq1, -, hr1, hc1⟩ := s5.at hy1
 obtain ⟨p6, k6, p7, k7, p8, k8, p9, k9, rfl, s6, s7, s8, s9⟩ := qbI hr1
 refine qi 3 rfl #[tt, tt, tt, tt, ff, ff, ff, ff, ff, ff, ff] (by kernel_rfl) (by kernel_rfl) (fun w' hw => qe3 qc hp1 hq1 ⟨he1.1, he1.2.1⟩ rfl rfl rfl rfl rfl rfl) (h.pick [0] rfl) rfl ?_
 refine qi 4 rfl #[tt, tt, tt, tt, tt, ff, ff, ff, ff, ff, ff] (by kernel_rfl) (by kernel_rfl) (fun w' hw => qbj qc (hc1.below hw.below) (j := 0) rfl rfl rfl) (h.pick [0] rfl) rfl ?_
 refine qi 5 rfl #[tt, tt, tt, tt, tt, tt, ff, ff, ff, ff, ff] (by kernel_rfl) (by kernel_rfl) (fun w' hw => qbj qc (hw.box 0 rfl) (j := 0) rfl rfl rfl) (h.pick [0] rfl) rfl ?_
 refine qi 6 rfl #[tt, tt, tt, tt, tt, tt, tt, ff, ff, ff, ff] (by kernel_rfl) (by kernel_rfl) (fun w' hw => v_p qc rfl w') (h.pick [0] rfl) rfl ?_
 obtain ⟨r1, hr2, hF⟩ := qd hF
 refine qoy (fun e w' => ∃ (bb8 : Nat) (S7 : Nat → Prop) (p16 : Option Addr) (k16 : Nat), e = [(5, .pointer (some ⟨bb8, 0, none⟩)), (6, .slice p16 r1.length k16)] ∧ SH w w' [Ch.box bb8 [.slice p6 y1.Parent.length k6, .slice p7 y1.Res.length k7, .slice p8 y1.Cap.length k8, .slice p9 y1.Sink.length k9] 117, Ch.own S7 (r1 : List Int) [.slice p16 r1.length k16], Ch.box bb1 [.slice p1 b.Library.Cells.length k1, .slice p2 b.Design.Instances.length k2, .slice p3 b.Design.Nets.length k3, .slice p4 b.Design.Ports.length k4, .slice p5 b.Wires.length k5] 48]) 0 #[tt, tt, tt, tt, tt, tt, tt, tt, tt, tt, tt] ?_ ?_
 ·intro K
  refine qqG 7 8 rfl rfl #[tt, tt, tt, tt, tt, tt, tt, tt, ff, ff, ff] #[tt, tt, tt, tt, tt, tt, tt, ff, tt, ff, ff] (by kernel_rfl) (by kernel_rfl) (by kernel_rfl) ?_ ?_
  ·refine qak r1 h call80 (qeL (h.old ha1) hr2) rfl rfl rfl rfl ?_
   intro w13 S5 p14 k14 h
   refine qW (fun _ => (h.pick [1] rfl)) ?_
   refine qab 8 rfl #[tt, tt, tt, tt, tt, tt, tt, tt, tt, ff, ff] (by kernel_rfl) (by kernel_rfl) ?_
   refine qU qc h rfl rfl rfl ?_
   intro w14 bb6 h
   refine qW (fun _ => (h.pick [2] rfl)) ?_
   refine qab 9 rfl #[tt, tt, tt, tt, tt, tt, tt, tt, tt, tt, ff] (by kernel_rfl) (by kernel_rfl) ?_
   refine zs 0 h rfl ?_
   intro w15 h
   refine qW (fun _ => (h.pick [2] rfl)) ?_
   refine qi 10 rfl #[tt, tt, tt, tt, tt, tt, tt, tt, tt, tt, tt] (by kernel_rfl) (by kernel_rfl) (fun w' hw => v_p qc rfl w') (h.pick [2] rfl) rfl ?_
   exact qoz [(5, _), (6, _)] ⟨rfl, rfl, trivial⟩ (K _ _ ⟨_, _, _, _, rfl, h⟩)
  refine qU qc h rfl rfl rfl ?_
  intro w16 bb7 h
  refine qW (fun _ => (h.pick [1] rfl)) ?_
  refine qab 7 rfl #[tt, tt, tt, tt, tt, tt, tt, tt, tt, ff, ff] (by kernel_rfl) (by kernel_rfl) ?_
  refine qak r1 h call80 (qeL (h.old ha1) hr2) rfl rfl rfl rfl ?_
  intro w17 S6 p15 k15 h
  refine qW (fun _ => (h.pick [2] rfl)) ?_
  refine qab 9 rfl #[tt, tt, tt, tt, tt, tt, tt, tt, tt, tt, ff] (by kernel_rfl) (by kernel_rfl) ?_
  refine zs 1 h rfl ?_
  intro w18 h
  replace h : SH _ _ [Ch.own S6 (r1 : List Int) [.slice p15 r1.length k15], Ch.box bb7 [.slice p6 y1.Parent.length k6, .slice p7 y1.Res.length k7, .slice p8 y1.Cap.length k8, .slice p9 y1.Sink.length k9] 117, Ch.box bb1 [.slice p1 b.Library.Cells.length k1, .slice p2 b.Design.Instances.length k2, .slice p3 b.Design.Nets.length k3, .slice p4 b.Design.Ports.length k4, .slice p5 b.Wires.length k5] 48] := h
  refine qW (fun _ => (h.pick [2] rfl)) ?_
  refine qi 10 rfl #[tt, tt, tt, tt, tt, tt, tt, tt, tt, tt, tt] (by kernel_rfl) (by kernel_rfl) (fun w' hw => v_p qc rfl w') (h.pick [2] rfl) rfl ?_
  replace h := h.pick [1, 0, 2] rfl
  exact qoz [(5, _), (6, _)] ⟨rfl, rfl, trivial⟩ (K _ _ ⟨_, _, _, _, rfl, h⟩)
 rintro e2 w19 ⟨bb8, S7, p16, k16, rfl, h⟩
 refine qcp (by kernel_rfl) ?_
 refine zSR (zp2 rfl ?_)
 obtain ⟨x1, hx1, hF⟩ := qd hF
 obtain ⟨g1, g2, hx1⟩ := qdG hx1
 refine qeu qc Int h rfl rfl rfl rfl rfl rfl rfl rfl rfl g1 g2 hx1 rfl ?_
 intro w20 S8 p17 h
 refine zp1 rfl (zNSSR (zp1 rfl (qb ?_)))
 obtain ⟨o1, hF, hK1⟩ := qd hF
 refine qz ?_
 replace h := h.pick [0, 1, 2] rfl
 refine qT [(5, _), (6, _), (7, _), (8, _)] ⟨rfl, rfl, rfl, rfl, trivial⟩ ?_
 refine qH (fun m e w' => ∃ (x2 : (List Int)) (i1 : Int), qaV y1 r1 x1 m x2 i1 = some o1 ∧ e = [(5, .pointer (some ⟨bb8, 0, none⟩)), (6, .slice p16 r1.length k16), (7, .slice p17 x1.length x1.length), (8, .int .i64 i1)] ∧ SH w w' [Ch.own S8 (x2 : List Int) [.slice p17 x1.length x1.length], Ch.box bb8 [.slice p6 y1.Parent.length k6, .slice p7 y1.Res.length k7, .slice p8 y1.Cap.length k8, .slice p9 y1.Sink.length k9] 117, Ch.own S7 (r1 : List Int) [.slice p16 r1.length k16]]) n ⟨_, _, hF, rfl, h⟩ ?_
 rintro m1 e3 w21 ⟨x2, i1, hF, rfl, h⟩
 rcases m1 with _ | m1
 ·rw [qaV] at hF
  cases hF
 rw [qaV] at hF
 refine zSSR (zp4 rfl (qb ?_))
 refine qq rfl hF ?_ ?_ <;> intro hF
 ·refine zKSB ?_
  refine qeO [22] (fun w' => SH w w' [Ch.own S8 (x2 : List Int) [.slice p17 x1.length x1.length], Ch.box bb8 [.slice p6 y1.Parent.length k6, .slice p7 y1.Res.length k7, .slice p8 y1.Cap.length k8, .slice p9 y1.Sink.length k9] 117, Ch.own S7 (r1 : List Int) [.slice p16 r1.length k16]]) rfl 23 rfl #[ff, ff, ff, ff, ff, ff, ff, ff, ff, ff, ff, ff, ff, ff, ff, ff, ff, ff, ff, ff, ff, ff, ff] (by kernel_rfl) (fun w22 hb => ?_)
  replace h := h.ext hb
  clear hb
  refine qi 0 rfl #[tt, ff, ff, ff, ff, ff, ff, ff, ff, ff, ff, ff, ff, ff, ff, ff, ff, ff, ff, ff, ff, ff, ff] (by kernel_rfl) (by kernel_rfl) (fun w' hw => v_p qc rfl w') (h.pick [0, 1, 2] rfl) rfl ?_
  refine qi 1 rfl #[tt, tt, ff, ff, ff, ff, ff, ff, ff, ff, ff, ff, ff, ff, ff, ff, ff, ff, ff, ff, ff, ff, ff] (by kernel_rfl) (by kernel_rfl) (fun w' hw => v_p qc rfl w') (h.pick [0, 1, 2] rfl) rfl ?_
  refine qi 2 rfl #[tt, tt, tt, ff, ff, ff, ff, ff, ff, ff, ff, ff, ff, ff, ff, ff, ff, ff, ff, ff, ff, ff, ff] (by kernel_rfl) (by kernel_rfl) (fun w' hw => v_p qc rfl w') (h.pick [0, 1, 2] rfl) rfl ?_
  refine qi 3 rfl #[tt, tt, tt, tt, ff, ff, ff, ff, ff, ff, ff, ff, ff, ff, ff, ff, ff, ff, ff, ff, ff, ff, ff] (by kernel_rfl) (by kernel_rfl) (fun w' hw => v_p qc rfl w') (h.pick [0, 1, 2] rfl) rfl ?_
  refine qi 4 rfl #[tt, tt, tt, tt, tt, ff, ff, ff, ff, ff, ff, ff, ff, ff, ff, ff, ff, ff, ff, ff, ff, ff, ff] (by kernel_rfl) (by kernel_rfl) (fun w' hw => qbj qc (hw.box 1 rfl) (j := 0) rfl rfl rfl) (h.pick [0, 1, 2] rfl) rfl ?_
  refine qi 5 rfl #[tt, tt, tt, tt, tt, tt, ff, ff, ff, ff, ff, ff, ff, ff, ff, ff, ff, ff, ff, ff, ff, ff, ff] (by kernel_rfl) (by kernel_rfl) (fun w' hw => v_p qc rfl w') (h.pick [0, 1, 2] rfl) rfl ?_
  obtain ⟨y2, hy2, hF⟩ := qd hF
  have he2 := qg hy2
  obtain ⟨b2, o_2, q2, cs3, hp2, hq2, -, hr3, hc3⟩ := s6.at hy2
  obtain rfl := hr3
  refine qi 6 rfl #[tt, tt, tt, tt, tt, tt, tt, ff, ff, ff, ff, ff, ff, ff, ff, ff, ff, ff, ff, ff, ff, ff, ff] (by kernel_rfl) (by kernel_rfl) (fun w' hw => qe3 qc hp2 hq2 ⟨he2.1, he2.2.1⟩ rfl rfl rfl rfl rfl rfl) (h.pick [0, 1, 2] rfl) rfl ?_
  refine qi 7 rfl #[tt, tt, tt, tt, tt, tt, tt, tt, ff, ff, ff, ff, ff, ff, ff, ff, ff, ff, ff, ff, ff, ff, ff] (by kernel_rfl) (by kernel_rfl) (fun w' hw => qbj qc (hc3.below hw.below) (j := 0) rfl rfl rfl) (h.pick [0, 1, 2] rfl) rfl ?_
  obtain ⟨y3, hy3, hF⟩ := qd hF
  have he3 := qg hy3
  obtain ⟨b3, o_3, q3, cs4, hp3, hq3, -, hr4, hc4⟩ := (h.sl 0 rfl).1.at hy3
  obtain rfl := hr4
  refine qi 8 rfl #[tt, tt, tt, tt, tt, tt, tt, tt, tt, ff, ff, ff, ff, ff, ff, ff, ff, ff, ff, ff, ff, ff, ff] (by kernel_rfl) (by kernel_rfl) (fun w' hw => qe3 qc hp3 hq3 ⟨he3.1, qa0 he3.2.1 (h.sl 0 rfl).2⟩ rfl rfl rfl rfl rfl rfl) (h.pick [0, 1, 2] rfl) rfl ?_
  refine qi 9 rfl #[tt, tt, tt, tt, tt, tt, tt, tt, tt, tt, ff, ff, ff, ff, ff, ff, ff, ff, ff, ff, ff, ff, ff] (by kernel_rfl) (by kernel_rfl) (fun w' hw => qbj qc (qgS (w1 := w) (S1 := fun _ => False) hw 0 rfl hy3 hp3 hq3 rfl) (j := 0) rfl rfl rfl) (h.pick [0, 1, 2] rfl) rfl ?_
  refine qi 10 rfl #[tt, tt, tt, tt, tt, tt, tt, tt, tt, tt, tt, ff, ff, ff, ff, ff, ff, ff, ff, ff, ff, ff, ff] (by kernel_rfl) (by kernel_rfl) (fun w' hw => v_p qc rfl w') (h.pick [0, 1, 2] rfl) rfl ?_
  refine qi 11 rfl #[tt, tt, tt, tt, tt, tt, tt, tt, tt, tt, tt, tt, ff, ff, ff, ff, ff, ff, ff, ff, ff, ff, ff] (by kernel_rfl) (by kernel_rfl) (fun w' hw => qbj qc (hw.box 1 rfl) (j := 1) rfl rfl rfl) (h.pick [0, 1, 2] rfl) rfl ?_
  refine qi 12 rfl #[tt, tt, tt, tt, tt, tt, tt, tt, tt, tt, tt, tt, tt, ff, ff, ff, ff, ff, ff, ff, ff, ff, ff] (by kernel_rfl) (by kernel_rfl) (fun w' hw => v_p qc rfl w') (h.pick [0, 1, 2] rfl) rfl ?_
  obtain ⟨y4, hy4, hF⟩ := qd hF
  have he4 := qg hy4
  obtain ⟨b4, o_4, q4, cs5, hp4, hq4, -, hr5, hc5⟩ := s7.at hy4
  obtain rfl := hr5
  refine qi 13 rfl #[tt, tt, tt, tt, tt, tt, tt, tt, tt, tt, tt, tt, tt, tt, ff, ff, ff, ff, ff, ff, ff, ff, ff] (by kernel_rfl) (by kernel_rfl) (fun w' hw => qe3 qc hp4 hq4 ⟨he4.1, he4.2.1⟩ rfl rfl rfl rfl rfl rfl) (h.pick [0, 1, 2] rfl) rfl ?_
  refine qi 14 rfl #[tt, tt, tt, tt, tt, tt, tt, tt, tt, tt, tt, tt, tt, tt, tt, ff, ff, ff, ff, ff, ff, ff, ff] (by kernel_rfl) (by kernel_rfl) (fun w' hw => qbj qc (hc5.below hw.below) (j := 0) rfl rfl rfl) (h.pick [0, 1, 2] rfl) rfl ?_
  refine qi 15 rfl #[tt, tt, tt, tt, tt, tt, tt, tt, tt, tt, tt, tt, tt, tt, tt, tt, ff, ff, ff, ff, ff, ff, ff] (by kernel_rfl) (by kernel_rfl) (fun w' hw => v_p qc rfl w') (h.pick [0, 1, 2] rfl) rfl ?_
  refine qi 16 rfl #[tt, tt, tt, tt, tt, tt, tt, tt, tt, tt, tt, tt, tt, tt, tt, tt, tt, ff, ff, ff, ff, ff, ff] (by kernel_rfl) (by kernel_rfl) (fun w' hw => v_p qc rfl w') (h.pick [0, 1, 2] rfl) rfl ?_
  obtain ⟨y5, hy5, hF⟩ := qd hF
  have he5 := qg hy5
  obtain ⟨b5, o_5, q5, cs6, hp5, hq5, -, hr6, hc6⟩ := (h.sl 2 rfl).1.at hy5
  obtain rfl := hr6
  refine qi 17 rfl #[tt, tt, tt, tt, tt, tt, tt, tt, tt, tt, tt, tt, tt, tt, tt, tt, tt, tt, ff, ff, ff, ff, ff] (by kernel_rfl) (by kernel_rfl) (fun w' hw => qe3 qc hp5 hq5 ⟨he5.1, qa0 he5.2.1 (h.sl 2 rfl).2⟩ rfl rfl rfl rfl rfl rfl) (h.pick [0, 1, 2] rfl) rfl ?_
  refine qi 18 rfl #[tt, tt, tt, tt, tt, tt, tt, tt, tt, tt, tt, tt, tt, tt, tt, tt, tt, tt, tt, ff, ff, ff, ff] (by kernel_rfl) (by kernel_rfl) (fun w' hw => qbj qc (qgS (w1 := w) (S1 := fun _ => False) hw 2 rfl hy5 hp5 hq5 rfl) (j := 0) rfl rfl rfl) (h.pick [0, 1, 2] rfl) rfl ?_
  refine qi 19 rfl #[tt, tt, tt, tt, tt, tt, tt, tt, tt, tt, tt, tt, tt, tt, tt, tt, tt, tt, tt, tt, ff, ff, ff] (by kernel_rfl) (by kernel_rfl) (fun w' hw => v_p qc rfl w') (h.pick [0, 1, 2] rfl) rfl ?_
  refine qi 20 rfl #[tt, tt, tt, tt, tt, tt, tt, tt, tt, tt, tt, tt, tt, tt, tt, tt, tt, tt, tt, tt, tt, ff, ff] (by kernel_rfl) (by kernel_rfl) (fun w' hw => v_p qc rfl w') (h.pick [0, 1, 2] rfl) rfl ?_
  obtain ⟨y6, hy6, hF⟩ := qd hF
  have he6 := qg hy6
  obtain ⟨b6, o_6, q6, cs7, hp6, hq6, -, hr7, hc7⟩ := (h.sl 0 rfl).1.at hy6
  obtain rfl := hr7
  refine qi 21 rfl #[tt, tt, tt, tt, tt, tt, tt, tt, tt, tt, tt, tt, tt, tt, tt, tt, tt, tt, tt, tt, tt, tt, ff] (by kernel_rfl) (by kernel_rfl) (fun w' hw => qe3 qc hp6 hq6 ⟨he6.1, qa0 he6.2.1 (h.sl 0 rfl).2⟩ rfl rfl rfl rfl rfl rfl) (h.pick [0, 1, 2] rfl) rfl ?_
  refine qab 22 rfl #[tt, tt, tt, tt, tt, tt, tt, tt, tt, tt, tt, tt, tt, tt, tt, tt, tt, tt, tt, tt, tt, tt, tt] (by kernel_rfl) (by kernel_rfl) ?_
  refine qfj qc 0 0 (W64 (y3 + (W64 (y4 * y5)))) h rfl hy6 hp6 hq6 rfl hc7 rfl rfl rfl rfl rfl rfl rfl ?_
  intro w23 h
  refine qW (fun hs => absurd (hs 22 (by decide)) (by decide)) ?_
  refine qcp (by kernel_rfl) ?_
  exact qfL (qE (zp3 rfl (qb (qA m1 [(5, _), (6, _), (7, _), (8, _)] (Nat.lt_succ_self m1) ⟨rfl, rfl, rfl, rfl, trivial⟩ ⟨_, _, hF, rfl, h⟩))))
 refine qI rfl ?_
 obtain rfl := qj hF; replace hF := hK1
 refine zSR (zp2 rfl (qb ?_))
 obtain rfl := qj hF
 exact qap qc (ρ := (List Int)) [GoT.v (List Int) [.slice p17 x1.length x1.length]] h ⟨rfl, trivial⟩ (PV.done h (qav (qaz 0 h rfl)))

def qaL (r1 : (List Int)) (y1 : qad) : Nat → (List Int) → Int → Option ((List Int) × Int)
 | 0, _, _ => none
 | n + 1, x1, i1 =>
  bif decide (i1 < (y1.Sink.length : Int)) then
   (idx y1.Sink i1).bind fun y2 =>
   (idx r1 y2).bind fun y3 =>
   (appS x1 ([y3] : List Int)).bind fun x2 =>
   qaL r1 y1 n x2 (W64 (i1 + 1))
  else
   some (x1, i1)

def qcM (n : Nat) (b : qy) (net : Int) : Option (List Int) :=
 (qd2 n b net).bind fun r1 =>
 (idx b.Wires net).bind fun y1 =>
 (qaL r1 y1 n ([] : List Int) 0).bind fun o => match o with
 | (x1, _) =>
  some x1

theorem qhW {n : Nat} {w : World} {b : qy} {net : Int} {cs1 : List Value} (ha1 : GoT.R w (old w) b cs1) {r : (List Int)} (hF : qcM n b net = some r) : RetV Tryz.prog 81 [GoT.v qy cs1, .int .i64 net] w r := by
 obtain ⟨p1, k1, p2, k2, p3, k3, p4, k4, p5, k5, rfl, s1, s2, s3, s4, s5⟩ := qas ha1
 refine qe Tryz.func81 rfl (m := 32) rfl rfl (fun h => ?_)
 rw [qcM] at hF
 refine zSR (qM h rfl rfl ?_)
 intro w1 bb1 h
 refine zp1 rfl (zNSR (zl 0 0 h rfl (zp1 rfl ?_)))
 obtain ⟨r1, hr1, hF⟩ := qd hF
 refine qak r1 h call135 (qia (h.old ha1) hr1) rfl rfl rfl rfl ?_
 intro w2 S1 p6 k6 h
 refine zp1 rfl (zNSR (zp1 rfl (zNSSR (zp1 rfl (zl 1 4 h rfl (zp1 rfl ?_))))))
 obtain ⟨y1, hy1, hF⟩ := qd hF
 have he1 := qg hy1
 obtain ⟨b1, o_1, q1, cs2, hp1, hq1, -, hr2, hc1⟩ := s5.at hy1
 obtain ⟨p7, k7, p8, k8, p9, k9, p10, k10, rfl, s6, s7, s8, s9⟩ := qbI hr2
 refine zxe hp1 hq1 he1 rfl (zp1 rfl (zc 3 (hc1.below h.below) rfl (zp2 rfl (qb ?_))))
 replace h := h.nil (α := Int)
 obtain ⟨o1, hF, hK1⟩ := qd hF
 refine qz ?_
 replace h := h.pick [0, 1] rfl
 refine qT [(5, _), (6, _), (17, _), (18, _), (19, _)] ⟨rfl, rfl, rfl, rfl, rfl, trivial⟩ ?_
 refine qH (fun m e w' => ∃ (S2 : Nat → Prop) (p11 : Option Addr) (ln1 : Nat) (k11 : Nat) (x1 : (List Int)) (i1 : Int), qaL r1 y1 m x1 i1 = some o1 ∧ e = [(5, .slice p6 r1.length k6), (6, .slice p11 ln1 k11), (17, .slice p10 y1.Sink.length k10), (18, .int .i64 (y1.Sink.length : Int)), (19, .int .i64 i1)] ∧ SH w w' [Ch.own S2 (x1 : List Int) [.slice p11 ln1 k11], Ch.own S1 (r1 : List Int) [.slice p6 r1.length k6]]) n ⟨_, _, _, _, _, _, hF, rfl, h⟩ ?_
 rintro m1 e1 w3 ⟨S2, p11, ln1, k11, x1, i1, hF, rfl, h⟩
 obtain rfl := (h.sl 0 rfl).2
 rcases m1 with _ | m1
 ·rw [qaL] at hF
  cases hF
 rw [qaL] at hF
 refine zSR (zp1 rfl (zNS ?_))
 refine qq rfl hF ?_ ?_ <;> intro hF
 ·refine zKSBSR ?_
  obtain ⟨y2, hy2, hF⟩ := qd hF
  have he2 := qg hy2
  obtain ⟨b2, o_2, q2, cs3, hp2, hq2, -, hr3, hc3⟩ := s9.at hy2
  obtain rfl := hr3
  refine zxe hp2 hq2 he2 rfl (zc 0 (hc3.below h.below) rfl (zp1 rfl (qb (qE (zp3 rfl ?_)))))
  obtain ⟨y3, hy3, hF⟩ := qd hF
  have he3 := qg hy3
  obtain ⟨b3, o_3, q3, cs4, hp3, hq3, -, hr4, hc4⟩ := (h.sl 1 rfl).1.at hy3
  obtain rfl := hr4
  refine zx hp3 hq3 ⟨he3.1, qa0 he3.2.1 (h.sl 1 rfl).2⟩ rfl (zc 0 hc4 rfl (qaP qc [.tmp 27] _ ([y3] : List Int) h rfl rfl rfl rfl rfl rfl rfl rfl rfl ⟨rfl, trivial⟩ rfl ?_))
  intro w4 p12 S3 h
  obtain ⟨x2, hx1, hF⟩ := qd hF
  obtain ⟨g1, hx1⟩ := qbr hx1
  refine qeq qc 1 h rfl (h.sl 0 rfl).1 (h.sl 0 rfl).2 rfl rfl rfl rfl rfl rfl rfl rfl rfl g1 hx1 rfl ?_
  intro w5 p13 k12 S4 h
  refine zp1 rfl (zNER (zp2 rfl (qb ?_)))
  replace h := h.pick [1, 2] rfl
  exact qA m1 [(5, _), (6, _), (17, _), (18, _), (19, _)] (Nat.lt_succ_self m1) ⟨rfl, rfl, rfl, rfl, rfl, trivial⟩ ⟨_, _, _, _, _, _, hF, rfl, h⟩
 refine qI rfl ?_
 obtain rfl := qj hF; replace hF := hK1
 refine zSR (zp2 rfl (qb ?_))
 obtain rfl := qj hF
 exact qap qc (ρ := (List Int)) [GoT.v (List Int) [.slice p11 x1.length k11]] h ⟨rfl, trivial⟩ (PV.done h (qav (qaz 0 h rfl)))

def qcn (x6 : (List Int)) (i4 : Int) (i5 : Int) (y7 : Int) : Nat → (List qbh) → Int → Option ((List qbh) × Int)
 | 0, _, _ => none
 | n + 1, x14, i6 =>
  bif decide (i6 < 2) then
   (idx x6 i4).bind fun y8 =>
   (appS x14 ([(⟨W64 ((W64 (2 * y8)) + i6), W64 ((W64 (2 * y7)) + i6), 2, i5⟩ : qbh)] : List qbh)).bind fun x15 =>
   qcn x6 i4 i5 y7 n x15 (W64 (i6 + 1))
  else
   some (x14, i6)

def qcm (x6 : (List Int)) (i4 : Int) (y6 : (List Int)) : Nat → (List qbh) → Int → Option ((List qbh) × Int)
 | 0, _, _ => none
 | n + 1, x13, i5 =>
  bif decide (i5 < (y6.length : Int)) then
   (idx y6 i5).bind fun y7 =>
   (qcn x6 i4 i5 y7 n x13 0).bind fun o => match o with
   | (x14, _) =>
    qcm x6 i4 y6 n x14 (W64 (i5 + 1))
  else
   some (x13, i5)

def qcW (a_0 : qy) (x5 : (List (List Int))) (x6 : (List Int)) : Nat → (List (List Int)) → (List Int) → (List qbh) → Int → Option ((List (List Int)) × (List Int) × (List qbh) × Int)
 | 0, _, _, _, _ => none
 | n + 1, x8, x9, x10, i4 =>
  bif decide (i4 < (a_0.Wires.length : Int)) then
   (qcs n a_0 i4).bind fun r4 =>
   (idx r4 0).bind fun y5 =>
   (appS x9 ([y5] : List Int)).bind fun x11 =>
   (qcM n a_0 i4).bind fun r5 =>
   (appS x8 ([r5] : List (List Int))).bind fun x12 =>
   (idx x5 i4).bind fun y6 =>
   (qcm x6 i4 y6 n x10 0).bind fun o => match o with
   | (x13, _) =>
    qcW a_0 x5 x6 n x12 x11 x13 (W64 (i4 + 1))
  else
   some (x8, x9, x10, i4)

def qbV (r1 : (List Tplace)) : Nat → (List (List Int)) → (List Int) → Int → Option ((List (List Int)) × (List Int) × Int)
 | 0, _, _, _ => none
 | n + 1, x5, x6, i3 =>
  bif decide (i3 < (r1.length : Int)) then
   (idx r1 i3).bind fun y2 =>
   bif y2.drives then
    (idx x6 y2.net).bind fun _ =>
    qbV r1 n x5 (setS x6 y2.net i3) (W64 (i3 + 1))
   else
    (idx x5 y2.net).bind fun y4 =>
    (appS y4 ([i3] : List Int)).bind fun x7 =>
    qbV r1 n (setS x5 y2.net x7) x6 (W64 (i3 + 1))
  else
   some (x5, x6, i3)

def qcZ (a_0 : qy) : Nat → (List qbh) → Int → Int → Option ((List qbh) × Int × Int)
 | 0, _, _, _ => none
 | n + 1, x1, i1, i2 =>
  bif decide (i2 < (a_0.Design.Instances.length : Int)) then
   (idx a_0.Design.Instances i2).bind fun y1 =>
   (qdn n a_0 y1 i1).bind fun r2 =>
   (appS x1 r2).bind fun x2 =>
   (qah n y1.Nets).bind fun r3 =>
   qcZ a_0 n x2 (W64 (i1 + r3)) (W64 (i2 + 1))
  else
   some (x1, i1, i2)

def qgO (n : Nat) (a_0 : qy) : Option (Option Tview) :=
 (qbR n (⟨a_0.Design.Instances, a_0.Design.Nets, a_0.Design.Ports⟩ : qk)).bind fun r1 =>
 (qcZ a_0 n ([] : List qbh) 0 0).bind fun o => match o with
 | (x1, _, _) =>
  (mkS (a_0.Wires.length : Int) (0 : Int)).bind fun x3 =>
  (mkS (a_0.Wires.length : Int) ([] : (List Int))).bind fun x4 =>
  (qbV r1 n x4 x3 0).bind fun o => match o with
  | (x5, x6, _) =>
   (qcW a_0 x5 x6 n ([] : List (List Int)) ([] : List Int) x1 0).bind fun o => match o with
   | (x8, x9, x10, _) =>
    some (some (⟨(⟨(⟨a_0.Library.Cells⟩ : qt), (⟨a_0.Design.Instances, a_0.Design.Nets, a_0.Design.Ports⟩ : qk), a_0.Wires⟩ : qy), r1, x10, x9, x8, []⟩ : Tview))

theorem qk7 {n : Nat} {w : World} {A : Nat → Prop} (hA : ∀ b, A b → old w b) {a_0 : qy} {cs1 : List Value} (ha1 : GoT.R w A a_0 cs1) {r : (Option Tview)} (hF : qgO n a_0 = some r) : RetG Tryz.prog 40 [GoT.v qy cs1] w A r := by
 obtain ⟨p1, k1, p2, k2, p3, k3, p4, k4, p5, k5, rfl, s1, s2, s3, s4, s5⟩ := qas ha1
 have hg := Rg.start hA
 refine qi7 Tryz.func40 rfl (m := 156) rfl rfl (fun h => ?_)
 rw [qgO] at hF
 refine zSR (qM h rfl rfl ?_)
 intro w1 bb1 h
 refine zp1 rfl (zNS ?_)
 refine qeO [] (fun w' => SH w w' [Ch.box bb1 [.slice p1 a_0.Library.Cells.length k1, .slice p2 a_0.Design.Instances.length k2, .slice p3 a_0.Design.Nets.length k3, .slice p4 a_0.Design.Ports.length k4, .slice p5 a_0.Wires.length k5] 48]) rfl 7 rfl #[ff, ff, ff, ff, ff, ff, ff] (by kernel_rfl) (fun w2 hb => ?_)
 replace h := h.ext hb
 clear hb
 refine qi 0 rfl #[tt, ff, ff, ff, ff, ff, ff] (by kernel_rfl) (by kernel_rfl) (fun w' hw => qbj qc (hw.box 0 rfl) (j := 0) rfl rfl rfl) (h.pick [0] rfl) rfl ?_
 refine qi 1 rfl #[tt, tt, ff, ff, ff, ff, ff] (by kernel_rfl) (by kernel_rfl) (fun w' hw => v_p qc rfl w') (h.pick [0] rfl) rfl ?_
 refine qi 2 rfl #[tt, tt, tt, ff, ff, ff, ff] (by kernel_rfl) (by kernel_rfl) (fun w' hw => qbj qc (hw.box 0 rfl) (j := 1) rfl rfl rfl) (h.pick [0] rfl) rfl ?_
 refine qab 3 rfl #[tt, tt, tt, tt, ff, ff, ff] (by kernel_rfl) (by kernel_rfl) ?_
 obtain ⟨r1, hr1, hF⟩ := qd hF
 refine qak r1 h call76 (qdZ (qba (⟨a_0.Design.Instances, a_0.Design.Nets, a_0.Design.Ports⟩ : qk) (h.oldS (s2.mono hg.old)) (h.oldS (s3.mono hg.old)) (h.oldS (s4.mono hg.old))) hr1) rfl rfl rfl rfl ?_
 intro w3 S1 p6 k6 h
 refine qW (fun _ => (h.pick [1] rfl)) ?_
 refine qi 4 rfl #[tt, tt, tt, tt, tt, ff, ff] (by kernel_rfl) (by kernel_rfl) (fun w' hw => qgr qc [0, 1] [.tmp 15, .tmp 18] rfl rfl rfl rfl rfl rfl rfl rfl) (h.pick [1] rfl) rfl ?_
 refine qab 5 rfl #[tt, tt, tt, tt, tt, tt, ff] (by kernel_rfl) (by kernel_rfl) ?_
 refine qM h rfl rfl ?_
 intro w4 bb2 h
 refine qW (fun _ => (h.pick [2] rfl)) ?_
 refine qi 6 rfl #[tt, tt, tt, tt, tt, tt, tt] (by kernel_rfl) (by kernel_rfl) (fun w' hw => v_p qc rfl w') (h.pick [2] rfl) rfl ?_
 refine qcp (by kernel_rfl) ?_
 refine zSR (zp1 rfl (zNSSR (zp2 rfl (zl 2 1 h rfl (zp2 rfl ?_)))))
 refine qb ?_
 replace h := h.nil (α := qbh)
 obtain ⟨o1, hF, hK1⟩ := qd hF
 refine qz (qT [(1, _), (3, _), (4, _), (23, _), (24, _), (25, _)] ⟨rfl, rfl, rfl, rfl, rfl, rfl, trivial⟩ ?_)
 refine qH (fun m e w' => ∃ (S2 : Nat → Prop) (p7 : Option Addr) (ln1 : Nat) (k7 : Nat) (x1 : (List qbh)) (i1 : Int) (i2 : Int), qcZ a_0 m x1 i1 i2 = some o1 ∧ e = [(1, .pointer (some ⟨bb1, 0, none⟩)), (3, .pointer (some ⟨bb2, 0, none⟩)), (4, .int .i64 i1), (23, .slice p2 a_0.Design.Instances.length k2), (24, .int .i64 (a_0.Design.Instances.length : Int)), (25, .int .i64 i2)] ∧ SH w w' [Ch.own S2 (x1 : List qbh) [.slice p7 ln1 k7], Ch.box bb2 [.slice p1 a_0.Library.Cells.length k1, .slice p2 a_0.Design.Instances.length k2, .slice p3 a_0.Design.Nets.length k3, .slice p4 a_0.Design.Ports.length k4, .slice p5 a_0.Wires.length k5, .slice p6 r1.length k6, .slice p7 ln1 k7, .slice none 0 0, .slice none 0 0, .slice none 0 0] 94, Ch.own S1 (r1 : List Tplace) [.slice p6 r1.length k6], Ch.box bb1 [.slice p1 a_0.Library.Cells.length k1, .slice p2 a_0.Design.Instances.length k2, .slice p3 a_0.Design.Nets.length k3, .slice p4 a_0.Design.Ports.length k4, .slice p5 a_0.Wires.length k5] 48]) n ⟨_, _, _, _, _, _, _, hF, rfl, h⟩ ?_
 rintro m1 e1 w5 ⟨S2, p7, ln1, k7, x1, i1, i2, hF, rfl, h⟩
 obtain rfl := (h.sl 0 rfl).2
 rcases m1 with _ | m1
 ·rw [qcZ] at hF
  cases hF
 rw [qcZ] at hF
 refine zSR (zp1 rfl (zNS ?_))
 refine qq rfl hF ?_ ?_ <;> intro hF
 ·refine zKSBSR ?_
  obtain ⟨y1, hy1, hF⟩ := qd hF
  have he1 := qg hy1
  obtain ⟨b1, o_1, q1, cs2, hp1, hq1, -, hr2, hc2⟩ := s2.at hy1
  obtain ⟨p8, k8, rfl, s6⟩ := qX hr2
  refine zxe hp1 hq1 he1 rfl (zc 0 (hc2.below h.below) rfl (qU qc h rfl rfl rfl ?_))
  intro w6 bb3 h
  refine zs 0 h rfl ?_
  intro w7 h
  replace h : SH _ _ [Ch.box bb3 [.string y1.Name, .int .i64 y1.Cell, .slice p8 y1.Nets.length k8] 126, Ch.own S2 (x1 : List qbh) [.slice p7 x1.length k7], Ch.box bb2 [.slice p1 a_0.Library.Cells.length k1, .slice p2 a_0.Design.Instances.length k2, .slice p3 a_0.Design.Nets.length k3, .slice p4 a_0.Design.Ports.length k4, .slice p5 a_0.Wires.length k5, .slice p6 r1.length k6, .slice p7 x1.length k7, .slice none 0 0, .slice none 0 0, .slice none 0 0] 94, Ch.own S1 (r1 : List Tplace) [.slice p6 r1.length k6], Ch.box bb1 [.slice p1 a_0.Library.Cells.length k1, .slice p2 a_0.Design.Instances.length k2, .slice p3 a_0.Design.Nets.length k3, .slice p4 a_0.Design.Ports.length k4, .slice p5 a_0.Wires.length k5] 48] := h
  refine zNS ?_
  refine qeO [12] (fun w' => SH w w' [Ch.box bb3 [.string y1.Name, .int .i64 y1.Cell, .slice p8 y1.Nets.length k8] 126, Ch.box bb2 [.slice p1 a_0.Library.Cells.length k1, .slice p2 a_0.Design.Instances.length k2, .slice p3 a_0.Design.Nets.length k3, .slice p4 a_0.Design.Ports.length k4, .slice p5 a_0.Wires.length k5, .slice p6 r1.length k6, .slice p7 x1.length k7, .slice none 0 0, .slice none 0 0, .slice none 0 0] 94, Ch.box bb1 [.slice p1 a_0.Library.Cells.length k1, .slice p2 a_0.Design.Instances.length k2, .slice p3 a_0.Design.Nets.length k3, .slice p4 a_0.Design.Ports.length k4, .slice p5 a_0.Wires.length k5] 48]) rfl 13 rfl #[ff, ff, ff, ff, ff, ff, ff, ff, ff, ff, ff, ff, ff] (by kernel_rfl) (fun w8 hb => ?_)
  replace h := h.ext hb
  clear hb
  refine qi 0 rfl #[tt, ff, ff, ff, ff, ff, ff, ff, ff, ff, ff, ff, ff] (by kernel_rfl) (by kernel_rfl) (fun w' hw => v_p qc rfl w') (h.pick [0, 2, 4] rfl) rfl ?_
  refine qi 1 rfl #[tt, tt, ff, ff, ff, ff, ff, ff, ff, ff, ff, ff, ff] (by kernel_rfl) (by kernel_rfl) (fun w' hw => v_p qc rfl w') (h.pick [0, 2, 4] rfl) rfl ?_
  refine qi 2 rfl #[tt, tt, tt, ff, ff, ff, ff, ff, ff, ff, ff, ff, ff] (by kernel_rfl) (by kernel_rfl) (fun w' hw => v_p qc rfl w') (h.pick [0, 2, 4] rfl) rfl ?_
  refine qi 3 rfl #[tt, tt, tt, tt, ff, ff, ff, ff, ff, ff, ff, ff, ff] (by kernel_rfl) (by kernel_rfl) (fun w' hw => v_p qc rfl w') (h.pick [0, 2, 4] rfl) rfl ?_
  refine qi 4 rfl #[tt, tt, tt, tt, tt, ff, ff, ff, ff, ff, ff, ff, ff] (by kernel_rfl) (by kernel_rfl) (fun w' hw => qbj qc (hw.box 1 rfl) (j := 6) rfl rfl rfl) (h.pick [0, 2, 4] rfl) rfl ?_
  refine qi 5 rfl #[tt, tt, tt, tt, tt, tt, ff, ff, ff, ff, ff, ff, ff] (by kernel_rfl) (by kernel_rfl) (fun w' hw => qbj qc (hw.box 2 rfl) (j := 0) rfl rfl rfl) (h.pick [0, 2, 4] rfl) rfl ?_
  refine qi 6 rfl #[tt, tt, tt, tt, tt, tt, tt, ff, ff, ff, ff, ff, ff] (by kernel_rfl) (by kernel_rfl) (fun w' hw => qbj qc (hw.box 0 rfl) (j := 0) rfl rfl rfl) (h.pick [0, 2, 4] rfl) rfl ?_
  refine qi 7 rfl #[tt, tt, tt, tt, tt, tt, tt, tt, ff, ff, ff, ff, ff] (by kernel_rfl) (by kernel_rfl) (fun w' hw => v_p qc rfl w') (h.pick [0, 2, 4] rfl) rfl ?_
  refine qab 8 rfl #[tt, tt, tt, tt, tt, tt, tt, tt, tt, ff, ff, ff, ff] (by kernel_rfl) (by kernel_rfl) ?_
  obtain ⟨r2, hr3, hF⟩ := qd hF
  refine qak r2 h call78 (qip (h.old (GoT.mono ha1 hg.old)) (qfc y1 (h.oldS (s6.mono hg.old))) hr3) rfl rfl rfl rfl ?_
  intro w9 S3 p9 k9 h
  refine qW (fun _ => (h.pick [1, 3, 5] rfl)) ?_
  refine qab 9 rfl #[tt, tt, tt, tt, tt, tt, tt, tt, tt, tt, ff, ff, ff] (by kernel_rfl) (by kernel_rfl) ?_
  obtain ⟨x2, hx1, hF⟩ := qd hF
  obtain ⟨g1, hx1⟩ := qbr hx1
  refine qeq qc 2 h rfl (h.sl 0 rfl).1 (h.sl 0 rfl).2 rfl rfl rfl rfl rfl rfl rfl rfl rfl g1 hx1 rfl ?_
  intro w10 p10 k10 S4 h
  refine qW (fun _ => (h.pick [1, 3, 5] rfl)) ?_
  refine qab 10 rfl #[tt, tt, tt, tt, tt, tt, tt, tt, tt, tt, tt, ff, ff] (by kernel_rfl) (by kernel_rfl) ?_
  refine zp1 rfl ?_
  refine qW (fun _ => (h.pick [1, 3, 5] rfl)) ?_
  refine qi 11 rfl #[tt, tt, tt, tt, tt, tt, tt, tt, tt, tt, tt, tt, ff] (by kernel_rfl) (by kernel_rfl) (fun w' hw => v_p qc rfl w') (h.pick [1, 3, 5] rfl) rfl ?_
  refine qab 12 rfl #[tt, tt, tt, tt, tt, tt, tt, tt, tt, tt, tt, tt, tt] (by kernel_rfl) (by kernel_rfl) ?_
  refine zs 3 h rfl ?_
  intro w11 h
  replace h : SH _ _ [Ch.own S3 (r2 : List qbh) [.slice p9 r2.length k9], Ch.box bb3 [.string y1.Name, .int .i64 y1.Cell, .slice p8 y1.Nets.length k8] 126, Ch.own S4 (x2 : List qbh) [.slice p10 x2.length k10], Ch.box bb2 [.slice p1 a_0.Library.Cells.length k1, .slice p2 a_0.Design.Instances.length k2, .slice p3 a_0.Design.Nets.length k3, .slice p4 a_0.Design.Ports.length k4, .slice p5 a_0.Wires.length k5, .slice p6 r1.length k6, .slice p10 x2.length k10, .slice none 0 0, .slice none 0 0, .slice none 0 0] 94, Ch.own S1 (r1 : List Tplace) [.slice p6 r1.length k6], Ch.box bb1 [.slice p1 a_0.Library.Cells.length k1, .slice p2 a_0.Design.Instances.length k2, .slice p3 a_0.Design.Nets.length k3, .slice p4 a_0.Design.Ports.length k4, .slice p5 a_0.Wires.length k5] 48] := h
  refine qW (fun hs => absurd (hs 12 (by decide)) (by decide)) ?_
  refine qcp (by kernel_rfl) ?_
  refine qE (zp2 rfl (zl 1 2 h rfl ?_))
  obtain ⟨r3, hr4, hF⟩ := qd hF
  refine qQ r3 h call79 (qbe ⟨_, _, rfl, (h.oldS (s6.mono hg.old))⟩ hr4) rfl rfl rfl rfl ?_
  intro w12 h
  refine zp2 rfl (zNER (zp2 rfl (qb ?_)))
  replace h := h.pick [2, 3, 4, 5] rfl
  exact qA m1 [(1, _), (3, _), (4, _), (23, _), (24, _), (25, _)] (Nat.lt_succ_self m1) ⟨rfl, rfl, rfl, rfl, rfl, rfl, trivial⟩ ⟨_, _, _, _, _, _, _, hF, rfl, h⟩
 refine qI rfl ?_
 obtain rfl := qj hF; replace hF := hK1
 refine zSR (zp1 rfl (zl 3 4 h rfl (zp1 rfl ?_)))
 obtain ⟨x3, hx2, hF⟩ := qd hF
 obtain ⟨g2, g3, hx2⟩ := qdG hx2
 refine qeu qc Int h rfl rfl rfl rfl rfl rfl rfl rfl rfl g2 g3 hx2 rfl ?_
 intro w13 S5 p11 h
 refine zp1 rfl (zNSR (zp1 rfl (zl 4 4 h rfl (zp1 rfl ?_))))
 obtain ⟨x4, hx3, hF⟩ := qd hF
 obtain ⟨g4, g5, hx3⟩ := qdG hx3
 refine qeu qc (List Int) h rfl rfl rfl rfl rfl rfl rfl rfl rfl g4 g5 hx3 rfl ?_
 intro w14 S6 p12 h
 refine zp1 rfl (zNSSR (zp3 rfl (zl 3 5 h rfl (zp2 rfl (qb ?_)))))
 obtain ⟨o2, hF, hK2⟩ := qd hF
 refine qz (qT [(1, _), (3, _), (7, _), (8, _), (58, _), (59, _), (60, _)] ⟨rfl, rfl, rfl, rfl, rfl, rfl, rfl, trivial⟩ ?_)
 refine qH (fun m e w' => ∃ (S7 : Nat → Prop) (x5 : (List (List Int))) (x6 : (List Int)) (i3 : Int), qbV r1 m x5 x6 i3 = some o2 ∧ e = [(1, .pointer (some ⟨bb1, 0, none⟩)), (3, .pointer (some ⟨bb2, 0, none⟩)), (7, .slice p11 x3.length x3.length), (8, .slice p12 x4.length x4.length), (58, .slice p6 r1.length k6), (59, .int .i64 (r1.length : Int)), (60, .int .i64 i3)] ∧ SH w w' [Ch.own S7 (x5 : List (List Int)) [.slice p12 x4.length x4.length], Ch.own S5 (x6 : List Int) [.slice p11 x3.length x3.length], Ch.own S2 (x1 : List qbh) [.slice p7 x1.length k7], Ch.box bb2 [.slice p1 a_0.Library.Cells.length k1, .slice p2 a_0.Design.Instances.length k2, .slice p3 a_0.Design.Nets.length k3, .slice p4 a_0.Design.Ports.length k4, .slice p5 a_0.Wires.length k5, .slice p6 r1.length k6, .slice p7 x1.length k7, .slice none 0 0, .slice none 0 0, .slice none 0 0] 94, Ch.own S1 (r1 : List Tplace) [.slice p6 r1.length k6], Ch.box bb1 [.slice p1 a_0.Library.Cells.length k1, .slice p2 a_0.Design.Instances.length k2, .slice p3 a_0.Design.Nets.length k3, .slice p4 a_0.Design.Ports.length k4, .slice p5 a_0.Wires.length k5] 48]) n ⟨_, _, _, _, hF, rfl, h⟩ ?_
 rintro m2 e2 w15 ⟨S7, x5, x6, i3, hF, rfl, h⟩
 rcases m2 with _ | m2
 ·rw [qbV] at hF
  cases hF
 rw [qbV] at hF
 refine zSR (zp1 rfl (zNS ?_))
 refine qq rfl hF ?_ ?_ <;> intro hF
 ·refine zKSBSR (zp1 rfl ?_)
  obtain ⟨y2, hy2, hF⟩ := qd hF
  have he2 := qg hy2
  obtain ⟨b2, o_2, q2, cs3, hp2, hq2, -, hr5, hc4⟩ := (h.sl 4 rfl).1.at hy2
  obtain rfl := qdh hr5
  refine zx hp2 hq2 ⟨he2.1, qa0 he2.2.1 (h.sl 4 rfl).2⟩ rfl (zc 0 hc4 rfl (qU qc h rfl rfl rfl ?_))
  intro w16 bb4 h
  refine zp1 rfl (zs 0 h rfl ?_)
  intro w17 h
  refine zNSR (zp1 rfl (zl 0 3 h rfl (qb ?_)))
  refine qq rfl hF ?_ ?_ <;> intro hF
  ·refine qE (zp2 rfl (zl 0 2 h rfl (zp1 rfl ?_)))
   obtain ⟨y3, hy3, hF⟩ := qd hF
   have he3 := qg hy3
   obtain ⟨b3, o_3, q3, cs4, hp3, hq3, -, hr6, hc6⟩ := (h.sl 2 rfl).1.at hy3
   obtain rfl := hr6
   refine zx hp3 hq3 ⟨he3.1, qa0 he3.2.1 (h.sl 2 rfl).2⟩ rfl (qfj qc 2 0 i3 h rfl hy3 hp3 hq3 rfl hc6 rfl rfl rfl rfl rfl rfl rfl ?_)
   intro w18 h
   refine zNER (zp2 rfl (qb ?_))
   replace h := h.pick [1, 2, 3, 4, 5, 6] rfl
   exact qA m2 [(1, _), (3, _), (7, _), (8, _), (58, _), (59, _), (60, _)] (Nat.lt_succ_self m2) ⟨rfl, rfl, rfl, rfl, rfl, rfl, rfl, trivial⟩ ⟨_, _, _, _, hF, rfl, h⟩
  obtain ⟨y4, hy4, hF⟩ := qd hF
  have he4 := qg hy4
  replace h := h.pick [1, 0, 2, 3, 4, 5, 6] rfl
  obtain ⟨S8, S9, cs5, h⟩ := h.take hy4
  obtain ⟨p13, k11, rfl, -⟩ := h.own 0 rfl
  refine qeO [12] (fun w' => SH w w' [Ch.hole S9 (x5 : List (List Int)) p12 x4.length x4.length (y2.net).toNat [.slice p13 y4.length k11], Ch.box bb4 [.int .i64 y2.instance_, .int .i64 y2.pin, .int .i64 y2.net, .bool y2.drives] 97]) rfl 13 rfl #[ff, ff, ff, ff, ff, ff, ff, ff, ff, ff, ff, ff, ff] (by kernel_rfl) (fun w19 hb => ?_)
  replace h := h.ext hb
  clear hb
  refine qi 0 rfl #[tt, ff, ff, ff, ff, ff, ff, ff, ff, ff, ff, ff, ff] (by kernel_rfl) (by kernel_rfl) (fun w' hw => v_p qc rfl w') (h.pick [1, 2] rfl) rfl ?_
  refine qi 1 rfl #[tt, tt, ff, ff, ff, ff, ff, ff, ff, ff, ff, ff, ff] (by kernel_rfl) (by kernel_rfl) (fun w' hw => v_p qc rfl w') (h.pick [1, 2] rfl) rfl ?_
  refine qi 2 rfl #[tt, tt, tt, ff, ff, ff, ff, ff, ff, ff, ff, ff, ff] (by kernel_rfl) (by kernel_rfl) (fun w' hw => qbj qc (hw.box 1 rfl) (j := 2) rfl rfl rfl) (h.pick [1, 2] rfl) rfl ?_
  refine qi 3 rfl #[tt, tt, tt, tt, ff, ff, ff, ff, ff, ff, ff, ff, ff] (by kernel_rfl) (by kernel_rfl) (fun w' hw => v_p qc rfl w') (h.pick [1, 2] rfl) rfl ?_
  refine qi 4 rfl #[tt, tt, tt, tt, tt, ff, ff, ff, ff, ff, ff, ff, ff] (by kernel_rfl) (by kernel_rfl) (fun w' hw => v_p qc rfl w') (h.pick [1, 2] rfl) rfl ?_
  refine qi 5 rfl #[tt, tt, tt, tt, tt, tt, ff, ff, ff, ff, ff, ff, ff] (by kernel_rfl) (by kernel_rfl) (fun w' hw => qbj qc (hw.box 1 rfl) (j := 2) rfl rfl rfl) (h.pick [1, 2] rfl) rfl ?_
  obtain ⟨b4, hp4, -, -, hl2⟩ := h.holeAt 1 rfl
  obtain ⟨q4, hq4⟩ : ∃ q, q = 0 + (y2.net).toNat * GoT.k (List Int) := ⟨_, rfl⟩
  refine qi 6 rfl #[tt, tt, tt, tt, tt, tt, tt, ff, ff, ff, ff, ff, ff] (by kernel_rfl) (by kernel_rfl) (fun w' hw => qe3 qc hp4 hq4 ⟨he4.1, qa0 he4.2.1 hl2⟩ rfl rfl rfl rfl rfl rfl) (h.pick [1, 2] rfl) rfl ?_
  refine qi 7 rfl #[tt, tt, tt, tt, tt, tt, tt, tt, ff, ff, ff, ff, ff] (by kernel_rfl) (by kernel_rfl) (fun w' hw => qbj qc (qos hw 0 rfl hp4 hq4) (j := 0) rfl rfl rfl) (h.pick [1, 2] rfl) rfl ?_
  refine qi 8 rfl #[tt, tt, tt, tt, tt, tt, tt, tt, tt, ff, ff, ff, ff] (by kernel_rfl) (by kernel_rfl) (fun w' hw => v_p qc rfl w') (h.pick [1, 2] rfl) rfl ?_
  refine qab 9 rfl #[tt, tt, tt, tt, tt, tt, tt, tt, tt, tt, ff, ff, ff] (by kernel_rfl) (by kernel_rfl) ?_
  refine qaP qc [.tmp 80] _ ([i3] : List Int) h rfl rfl rfl rfl rfl rfl rfl rfl rfl ⟨rfl, trivial⟩ rfl ?_
  intro w20 p14 S10 h
  refine qW (fun _ => (h.pick [2, 3] rfl)) ?_
  refine qab 10 rfl #[tt, tt, tt, tt, tt, tt, tt, tt, tt, tt, tt, ff, ff] (by kernel_rfl) (by kernel_rfl) ?_
  obtain ⟨x7, hx4, hF⟩ := qd hF
  obtain ⟨g6, hx4⟩ := qbr hx4
  refine qeq qc 1 h rfl (h.sl 0 rfl).1 (h.sl 0 rfl).2 rfl rfl rfl rfl rfl rfl rfl rfl rfl g6 hx4 rfl ?_
  intro w21 p15 k12 S11 h
  refine qW (fun _ => (h.pick [2, 3] rfl)) ?_
  obtain ⟨b5, hp5, -, -, hl4⟩ := h.holeAt 2 rfl
  obtain ⟨q5, hq5⟩ : ∃ q, q = 0 + (y2.net).toNat * GoT.k (List Int) := ⟨_, rfl⟩
  refine qi 11 rfl #[tt, tt, tt, tt, tt, tt, tt, tt, tt, tt, tt, tt, ff] (by kernel_rfl) (by kernel_rfl) (fun w' hw => qe3 qc hp5 hq5 ⟨he4.1, qa0 he4.2.1 hl4⟩ rfl rfl rfl rfl rfl rfl) (h.pick [2, 3] rfl) rfl ?_
  refine qab 12 rfl #[tt, tt, tt, tt, tt, tt, tt, tt, tt, tt, tt, tt, tt] (by kernel_rfl) (by kernel_rfl) ?_
  refine qpq qc 2 0 h rfl hp5 hq5 rfl rfl rfl rfl rfl rfl ?_
  intro w22 h
  refine qW (fun hs => absurd (hs 12 (by decide)) (by decide)) ?_
  refine qcp (by kernel_rfl) ?_
  refine qfL (qE (zp2 rfl (qb ?_)))
  replace h := h.pick [1, 2, 0, 3, 4, 5, 6, 7, 8] rfl
  replace h := h.put
  obtain ⟨S12, h⟩ := qqL (S := _) h
  replace h := h.pick [0, 3, 4, 5, 6, 7] rfl
  exact qA m2 [(1, _), (3, _), (7, _), (8, _), (58, _), (59, _), (60, _)] (Nat.lt_succ_self m2) ⟨rfl, rfl, rfl, rfl, rfl, rfl, rfl, trivial⟩ ⟨_, _, _, _, hF, rfl, h⟩
 refine qI rfl ?_
 obtain rfl := qj hF; replace hF := hK2
 refine zSSR (zp1 rfl (zl 5 4 h rfl (zp2 rfl (qb ?_))))
 replace h := h.nil (α := Int)
 replace h := h.nil (α := (List Int))
 obtain ⟨o3, hF, hK3⟩ := qd hF
 refine qz (qT [(1, _), (3, _), (7, _), (8, _), (87, _), (88, _)] ⟨rfl, rfl, rfl, rfl, rfl, rfl, trivial⟩ ?_)
 refine qH (fun m e w' => ∃ (S13 : Nat → Prop) (p16 : Option Addr) (ln2 : Nat) (k13 : Nat) (x8 : (List (List Int))) (S14 : Nat → Prop) (p17 : Option Addr) (ln3 : Nat) (k14 : Nat) (x9 : (List Int)) (S15 : Nat → Prop) (p18 : Option Addr) (ln4 : Nat) (k15 : Nat) (x10 : (List qbh)) (i4 : Int), qcW a_0 x5 x6 m x8 x9 x10 i4 = some o3 ∧ e = [(1, .pointer (some ⟨bb1, 0, none⟩)), (3, .pointer (some ⟨bb2, 0, none⟩)), (7, .slice p11 x3.length x3.length), (8, .slice p12 x4.length x4.length), (87, .int .i64 (a_0.Wires.length : Int)), (88, .int .i64 i4)] ∧ SH w w' [Ch.own S13 (x8 : List (List Int)) [.slice p16 ln2 k13], Ch.own S14 (x9 : List Int) [.slice p17 ln3 k14], Ch.own S7 (x5 : List (List Int)) [.slice p12 x4.length x4.length], Ch.own S5 (x6 : List Int) [.slice p11 x3.length x3.length], Ch.own S15 (x10 : List qbh) [.slice p18 ln4 k15], Ch.box bb2 [.slice p1 a_0.Library.Cells.length k1, .slice p2 a_0.Design.Instances.length k2, .slice p3 a_0.Design.Nets.length k3, .slice p4 a_0.Design.Ports.length k4, .slice p5 a_0.Wires.length k5, .slice p6 r1.length k6, .slice p18 ln4 k15, .slice p17 ln3 k14, .slice p16 ln2 k13, .slice none 0 0] 94, Ch.own S1 (r1 : List Tplace) [.slice p6 r1.length k6], Ch.box bb1 [.slice p1 a_0.Library.Cells.length k1, .slice p2 a_0.Design.Instances.length k2, .slice p3 a_0.Design.Nets.length k3, .slice p4 a_0.Design.Ports.length k4, .slice p5 a_0.Wires.length k5] 48]) n ⟨_, _, _, _, _, _, _, _, _, _, _, _, _, _, _, _, hF, rfl, h⟩ ?_
 rintro m3 e3 w23 ⟨S13, p16, ln2, k13, x8, S14, p17, ln3, k14, x9, S15, p18, ln4, k15, x10, i4, hF, rfl, h⟩
 obtain rfl := (h.sl 0 rfl).2
 obtain rfl := (h.sl 1 rfl).2
 obtain rfl := (h.sl 4 rfl).2
 rcases m3 with _ | m3
 ·rw [qcW] at hF
  cases hF
 rw [qcW] at hF
 refine zSR (zp1 rfl (zNS ?_))
 refine qq rfl hF ?_ ?_ <;> intro hF
 ·refine zKSBSR (zp2 rfl (zNS ?_))
  refine qeO [14] (fun w' => SH w w' [Ch.box bb2 [.slice p1 a_0.Library.Cells.length k1, .slice p2 a_0.Design.Instances.length k2, .slice p3 a_0.Design.Nets.length k3, .slice p4 a_0.Design.Ports.length k4, .slice p5 a_0.Wires.length k5, .slice p6 r1.length k6, .slice p18 x10.length k15, .slice p17 x9.length k14, .slice p16 x8.length k13, .slice none 0 0] 94, Ch.box bb1 [.slice p1 a_0.Library.Cells.length k1, .slice p2 a_0.Design.Instances.length k2, .slice p3 a_0.Design.Nets.length k3, .slice p4 a_0.Design.Ports.length k4, .slice p5 a_0.Wires.length k5] 48]) rfl 15 rfl #[ff, ff, ff, ff, ff, ff, ff, ff, ff, ff, ff, ff, ff, ff, ff] (by kernel_rfl) (fun w24 hb => ?_)
  replace h := h.ext hb
  clear hb
  refine qi 0 rfl #[tt, ff, ff, ff, ff, ff, ff, ff, ff, ff, ff, ff, ff, ff, ff] (by kernel_rfl) (by kernel_rfl) (fun w' hw => v_p qc rfl w') (h.pick [5, 7] rfl) rfl ?_
  refine qi 1 rfl #[tt, tt, ff, ff, ff, ff, ff, ff, ff, ff, ff, ff, ff, ff, ff] (by kernel_rfl) (by kernel_rfl) (fun w' hw => v_p qc rfl w') (h.pick [5, 7] rfl) rfl ?_
  refine qi 2 rfl #[tt, tt, tt, ff, ff, ff, ff, ff, ff, ff, ff, ff, ff, ff, ff] (by kernel_rfl) (by kernel_rfl) (fun w' hw => v_p qc rfl w') (h.pick [5, 7] rfl) rfl ?_
  refine qi 3 rfl #[tt, tt, tt, tt, ff, ff, ff, ff, ff, ff, ff, ff, ff, ff, ff] (by kernel_rfl) (by kernel_rfl) (fun w' hw => v_p qc rfl w') (h.pick [5, 7] rfl) rfl ?_
  refine qi 4 rfl #[tt, tt, tt, tt, tt, ff, ff, ff, ff, ff, ff, ff, ff, ff, ff] (by kernel_rfl) (by kernel_rfl) (fun w' hw => qbj qc (hw.box 0 rfl) (j := 7) rfl rfl rfl) (h.pick [5, 7] rfl) rfl ?_
  refine qi 5 rfl #[tt, tt, tt, tt, tt, tt, ff, ff, ff, ff, ff, ff, ff, ff, ff] (by kernel_rfl) (by kernel_rfl) (fun w' hw => qbj qc (hw.box 1 rfl) (j := 0) rfl rfl rfl) (h.pick [5, 7] rfl) rfl ?_
  refine qi 6 rfl #[tt, tt, tt, tt, tt, tt, tt, ff, ff, ff, ff, ff, ff, ff, ff] (by kernel_rfl) (by kernel_rfl) (fun w' hw => v_p qc rfl w') (h.pick [5, 7] rfl) rfl ?_
  refine qab 7 rfl #[tt, tt, tt, tt, tt, tt, tt, tt, ff, ff, ff, ff, ff, ff, ff] (by kernel_rfl) (by kernel_rfl) ?_
  obtain ⟨r4, hr7, hF⟩ := qd hF
  refine qak r4 h call80 (qeL (h.old (GoT.mono ha1 hg.old)) hr7) rfl rfl rfl rfl ?_
  intro w25 S16 p19 k16 h
  refine qW (fun _ => (h.pick [6, 8] rfl)) ?_
  obtain ⟨y5, hy5, hF⟩ := qd hF
  have he5 := qg hy5
  obtain ⟨b6, o_4, q6, cs6, hp6, hq6, -, hr8, hc8⟩ := (h.sl 0 rfl).1.at hy5
  obtain rfl := hr8
  refine qi 8 rfl #[tt, tt, tt, tt, tt, tt, tt, tt, tt, ff, ff, ff, ff, ff, ff] (by kernel_rfl) (by kernel_rfl) (fun w' hw => qe3 qc hp6 hq6 ⟨he5.1, qa0 he5.2.1 (h.sl 0 rfl).2⟩ rfl rfl rfl rfl rfl rfl) (h.pick [6, 8] rfl) rfl ?_
  refine qab 9 rfl #[tt, tt, tt, tt, tt, tt, tt, tt, tt, tt, ff, ff, ff, ff, ff] (by kernel_rfl) (by kernel_rfl) ?_
  refine zc 0 hc8 rfl ?_
  refine qW (fun _ => (h.pick [6, 8] rfl)) ?_
  refine qab 10 rfl #[tt, tt, tt, tt, tt, tt, tt, tt, tt, tt, tt, ff, ff, ff, ff] (by kernel_rfl) (by kernel_rfl) ?_
  refine qaP qc [.tmp 100] _ ([y5] : List Int) h rfl rfl rfl rfl rfl rfl rfl rfl rfl ⟨rfl, trivial⟩ rfl ?_
  intro w26 p20 S17 h
  refine qW (fun _ => (h.pick [7, 9] rfl)) ?_
  refine qab 11 rfl #[tt, tt, tt, tt, tt, tt, tt, tt, tt, tt, tt, tt, ff, ff, ff] (by kernel_rfl) (by kernel_rfl) ?_
  obtain ⟨x11, hx5, hF⟩ := qd hF
  obtain ⟨g7, hx5⟩ := qbr hx5
  refine qeq qc 3 h rfl (h.sl 0 rfl).1 (h.sl 0 rfl).2 rfl rfl rfl rfl rfl rfl rfl rfl rfl g7 hx5 rfl ?_
  intro w27 p21 k17 S18 h
  refine qW (fun _ => (h.pick [7, 9] rfl)) ?_
  refine qab 12 rfl #[tt, tt, tt, tt, tt, tt, tt, tt, tt, tt, tt, tt, tt, ff, ff] (by kernel_rfl) (by kernel_rfl) ?_
  refine zp1 rfl ?_
  refine qW (fun _ => (h.pick [7, 9] rfl)) ?_
  refine qi 13 rfl #[tt, tt, tt, tt, tt, tt, tt, tt, tt, tt, tt, tt, tt, tt, ff] (by kernel_rfl) (by kernel_rfl) (fun w' hw => v_p qc rfl w') (h.pick [7, 9] rfl) rfl ?_
  refine qab 14 rfl #[tt, tt, tt, tt, tt, tt, tt, tt, tt, tt, tt, tt, tt, tt, tt] (by kernel_rfl) (by kernel_rfl) ?_
  refine zs 7 h rfl ?_
  intro w28 h
  refine qW (fun hs => absurd (hs 14 (by decide)) (by decide)) ?_
  refine qcp (by kernel_rfl) ?_
  refine qbn ?_
  refine qeO [12] (fun w' => SH w w' [Ch.box bb2 [.slice p1 a_0.Library.Cells.length k1, .slice p2 a_0.Design.Instances.length k2, .slice p3 a_0.Design.Nets.length k3, .slice p4 a_0.Design.Ports.length k4, .slice p5 a_0.Wires.length k5, .slice p6 r1.length k6, .slice p18 x10.length k15, .slice p21 x11.length k17, .slice p16 x8.length k13, .slice none 0 0] 94, Ch.box bb1 [.slice p1 a_0.Library.Cells.length k1, .slice p2 a_0.Design.Instances.length k2, .slice p3 a_0.Design.Nets.length k3, .slice p4 a_0.Design.Ports.length k4, .slice p5 a_0.Wires.length k5] 48]) rfl 13 rfl #[ff, ff, ff, ff, ff, ff, ff, ff, ff, ff, ff, ff, ff] (by kernel_rfl) (fun w29 hb => ?_)
  replace h := h.ext hb
  clear hb
  refine qi 0 rfl #[tt, ff, ff, ff, ff, ff, ff, ff, ff, ff, ff, ff, ff] (by kernel_rfl) (by kernel_rfl) (fun w' hw => v_p qc rfl w') (h.pick [7, 9] rfl) rfl ?_
  refine qi 1 rfl #[tt, tt, ff, ff, ff, ff, ff, ff, ff, ff, ff, ff, ff] (by kernel_rfl) (by kernel_rfl) (fun w' hw => v_p qc rfl w') (h.pick [7, 9] rfl) rfl ?_
  refine qi 2 rfl #[tt, tt, tt, ff, ff, ff, ff, ff, ff, ff, ff, ff, ff] (by kernel_rfl) (by kernel_rfl) (fun w' hw => v_p qc rfl w') (h.pick [7, 9] rfl) rfl ?_
  refine qi 3 rfl #[tt, tt, tt, tt, ff, ff, ff, ff, ff, ff, ff, ff, ff] (by kernel_rfl) (by kernel_rfl) (fun w' hw => v_p qc rfl w') (h.pick [7, 9] rfl) rfl ?_
  refine qi 4 rfl #[tt, tt, tt, tt, tt, ff, ff, ff, ff, ff, ff, ff, ff] (by kernel_rfl) (by kernel_rfl) (fun w' hw => qbj qc (hw.box 0 rfl) (j := 8) rfl rfl rfl) (h.pick [7, 9] rfl) rfl ?_
  refine qi 5 rfl #[tt, tt, tt, tt, tt, tt, ff, ff, ff, ff, ff, ff, ff] (by kernel_rfl) (by kernel_rfl) (fun w' hw => qbj qc (hw.box 1 rfl) (j := 0) rfl rfl rfl) (h.pick [7, 9] rfl) rfl ?_
  refine qi 6 rfl #[tt, tt, tt, tt, tt, tt, tt, ff, ff, ff, ff, ff, ff] (by kernel_rfl) (by kernel_rfl) (fun w' hw => v_p qc rfl w') (h.pick [7, 9] rfl) rfl ?_
  refine qab 7 rfl #[tt, tt, tt, tt, tt, tt, tt, tt, ff, ff, ff, ff, ff] (by kernel_rfl) (by kernel_rfl) ?_
  obtain ⟨r5, hr9, hF⟩ := qd hF
  refine qak r5 h call81 (qhW (h.old (GoT.mono ha1 hg.old)) hr9) rfl rfl rfl rfl ?_
  intro w30 S19 p22 k18 h
  refine qW (fun _ => (h.pick [8, 10] rfl)) ?_
  refine qab 8 rfl #[tt, tt, tt, tt, tt, tt, tt, tt, tt, ff, ff, ff, ff] (by kernel_rfl) (by kernel_rfl) ?_
  refine qoR qc [.tmp 112] _ ([r5] : List (List Int)) [1, 2, 3, 4, 5, 6, 7, 8, 9, 10] h rfl rfl rfl rfl rfl rfl rfl rfl rfl (qpv (qaz 0 h rfl) qqh rfl) rfl rfl ?_
  intro w31 p23 S20 h
  refine qW (fun _ => (h.pick [8, 10] rfl)) ?_
  refine qab 9 rfl #[tt, tt, tt, tt, tt, tt, tt, tt, tt, tt, ff, ff, ff] (by kernel_rfl) (by kernel_rfl) ?_
  obtain ⟨x12, hx6, hF⟩ := qd hF
  obtain ⟨g8, hx6⟩ := qbr hx6
  replace h := h.pick [0, 3, 1, 2, 4, 5, 6, 7, 8, 9, 10] rfl
  refine qp4 qc h rfl rfl rfl rfl rfl rfl rfl rfl rfl g8 hx6 rfl ?_
  intro w32 p24 k19 S21 h
  refine qW (fun _ => (h.pick [7, 9] rfl)) ?_
  refine qab 10 rfl #[tt, tt, tt, tt, tt, tt, tt, tt, tt, tt, tt, ff, ff] (by kernel_rfl) (by kernel_rfl) ?_
  refine zp1 rfl ?_
  refine qW (fun _ => (h.pick [7, 9] rfl)) ?_
  refine qi 11 rfl #[tt, tt, tt, tt, tt, tt, tt, tt, tt, tt, tt, tt, ff] (by kernel_rfl) (by kernel_rfl) (fun w' hw => v_p qc rfl w') (h.pick [7, 9] rfl) rfl ?_
  refine qab 12 rfl #[tt, tt, tt, tt, tt, tt, tt, tt, tt, tt, tt, tt, tt] (by kernel_rfl) (by kernel_rfl) ?_
  refine zs 7 h rfl ?_
  intro w33 h
  refine qW (fun hs => absurd (hs 12 (by decide)) (by decide)) ?_
  refine qcp (by kernel_rfl) ?_
  refine zSR (zp2 rfl ?_)
  obtain ⟨y6, hy6, hF⟩ := qd hF
  have he6 := qg hy6
  replace h := h.lrn0 4 rfl
  obtain ⟨b7, o_5, q7, cs7, hp7, hq7, -, hr10, hc9⟩ := (qh3 (h.lrnO 4 rfl)).1.at hy6
  have hr11 := hr10
  obtain ⟨p25, k20, rfl, s7⟩ := hr10
  replace h := h.lrnAdd 4 rfl hr11
  refine zx hp7 hq7 ⟨he6.1, qa0 he6.2.1 (qh3 (h.lrnO 4 rfl)).2⟩ rfl (zc 0 hc9 rfl (zp2 rfl (qb ?_)))
  obtain ⟨o4, hF, hK4⟩ := qd hF
  refine qz ?_
  replace h := h.pick [0, 3, 4, 5, 6, 7, 8, 9] rfl
  refine qT [(1, _), (3, _), (7, _), (8, _), (11, _), (87, _), (88, _), (120, _), (121, _), (122, _)] ⟨rfl, rfl, rfl, rfl, rfl, rfl, rfl, rfl, rfl, rfl, trivial⟩ ?_
  refine qH (fun m e w' => ∃ (S22 : Nat → Prop) (p26 : Option Addr) (ln5 : Nat) (k21 : Nat) (x13 : (List qbh)) (i5 : Int), qcm x6 i4 y6 m x13 i5 = some o4 ∧ e = [(1, .pointer (some ⟨bb1, 0, none⟩)), (3, .pointer (some ⟨bb2, 0, none⟩)), (7, .slice p11 x3.length x3.length), (8, .slice p12 x4.length x4.length), (11, .int .i64 i4), (87, .int .i64 (a_0.Wires.length : Int)), (88, .int .i64 i4), (120, .slice p25 y6.length k20), (121, .int .i64 (y6.length : Int)), (122, .int .i64 i5)] ∧ SH w w' [Ch.own S21 (x12 : List (List Int)) [.slice p24 x12.length k19], Ch.own S18 (x11 : List Int) [.slice p21 x11.length k17], Ch.lrn S7 (x5 : List (List Int)) [.slice p12 x4.length x4.length] [fct (y6 : (List Int)) [.slice p25 y6.length k20]], Ch.own S5 (x6 : List Int) [.slice p11 x3.length x3.length], Ch.own S22 (x13 : List qbh) [.slice p26 ln5 k21], Ch.box bb2 [.slice p1 a_0.Library.Cells.length k1, .slice p2 a_0.Design.Instances.length k2, .slice p3 a_0.Design.Nets.length k3, .slice p4 a_0.Design.Ports.length k4, .slice p5 a_0.Wires.length k5, .slice p6 r1.length k6, .slice p26 ln5 k21, .slice p21 x11.length k17, .slice p24 x12.length k19, .slice none 0 0] 94, Ch.own S1 (r1 : List Tplace) [.slice p6 r1.length k6], Ch.box bb1 [.slice p1 a_0.Library.Cells.length k1, .slice p2 a_0.Design.Instances.length k2, .slice p3 a_0.Design.Nets.length k3, .slice p4 a_0.Design.Ports.length k4, .slice p5 a_0.Wires.length k5] 48]) m3 ⟨_, _, _, _, _, _, hF, rfl, h⟩ ?_
  rintro m4 e4 w34 ⟨S22, p26, ln5, k21, x13, i5, hF, rfl, h⟩
  obtain rfl := (h.sl 4 rfl).2
  rcases m4 with _ | m4
  ·rw [qcm] at hF
   cases hF
  rw [qcm] at hF
  refine zSR (zp1 rfl (zNS ?_))
  refine qq rfl hF ?_ ?_ <;> intro hF
  ·refine zKSBSR (zp1 rfl ?_)
   obtain ⟨y7, hy7, hF⟩ := qd hF
   have he7 := qg hy7
   obtain ⟨b8, o_6, q8, cs8, hp8, hq8, -, hr12, hc11⟩ := (qh3 (GoT.mono (h.lrnS 2 0 rfl rfl) (h.lrnB 2 rfl))).1.at hy7
   obtain rfl := hr12
   refine zx hp8 hq8 ⟨he7.1, qa0 he7.2.1 (qh3 (GoT.mono (h.lrnS 2 0 rfl rfl) (h.lrnB 2 rfl))).2⟩ rfl (zc 0 hc11 rfl (zp2 rfl (zNSR (zp1 rfl (qb ?_)))))
   obtain ⟨o5, hF, hK5⟩ := qd hF
   refine qz (qT [(1, _), (3, _), (7, _), (8, _), (11, _), (12, _), (13, _), (87, _), (88, _), (120, _), (121, _), (122, _), (127, _)] ⟨rfl, rfl, rfl, rfl, rfl, rfl, rfl, rfl, rfl, rfl, rfl, rfl, rfl, trivial⟩ ?_)
   refine qH (fun m e w' => ∃ (S23 : Nat → Prop) (p27 : Option Addr) (ln6 : Nat) (k22 : Nat) (x14 : (List qbh)) (i6 : Int), qcn x6 i4 i5 y7 m x14 i6 = some o5 ∧ e = [(1, .pointer (some ⟨bb1, 0, none⟩)), (3, .pointer (some ⟨bb2, 0, none⟩)), (7, .slice p11 x3.length x3.length), (8, .slice p12 x4.length x4.length), (11, .int .i64 i4), (12, .int .i64 i5), (13, .int .i64 y7), (87, .int .i64 (a_0.Wires.length : Int)), (88, .int .i64 i4), (120, .slice p25 y6.length k20), (121, .int .i64 (y6.length : Int)), (122, .int .i64 i5), (127, .int .i64 i6)] ∧ SH w w' [Ch.own S21 (x12 : List (List Int)) [.slice p24 x12.length k19], Ch.own S18 (x11 : List Int) [.slice p21 x11.length k17], Ch.lrn S7 (x5 : List (List Int)) [.slice p12 x4.length x4.length] [fct (y6 : (List Int)) [.slice p25 y6.length k20]], Ch.own S5 (x6 : List Int) [.slice p11 x3.length x3.length], Ch.own S23 (x14 : List qbh) [.slice p27 ln6 k22], Ch.box bb2 [.slice p1 a_0.Library.Cells.length k1, .slice p2 a_0.Design.Instances.length k2, .slice p3 a_0.Design.Nets.length k3, .slice p4 a_0.Design.Ports.length k4, .slice p5 a_0.Wires.length k5, .slice p6 r1.length k6, .slice p27 ln6 k22, .slice p21 x11.length k17, .slice p24 x12.length k19, .slice none 0 0] 94, Ch.own S1 (r1 : List Tplace) [.slice p6 r1.length k6], Ch.box bb1 [.slice p1 a_0.Library.Cells.length k1, .slice p2 a_0.Design.Instances.length k2, .slice p3 a_0.Design.Nets.length k3, .slice p4 a_0.Design.Ports.length k4, .slice p5 a_0.Wires.length k5] 48]) m4 ⟨_, _, _, _, _, _, hF, rfl, h⟩ ?_
   rintro m5 e5 w35 ⟨S23, p27, ln6, k22, x14, i6, hF, rfl, h⟩
   obtain rfl := (h.sl 4 rfl).2
   rcases m5 with _ | m5
   ·rw [qcn] at hF
    cases hF
   rw [qcn] at hF
   refine zSR (zp1 rfl (zNS ?_))
   refine qq rfl hF ?_ ?_ <;> intro hF
   ·refine zKSBSR (zp2 rfl (qb ?_))
    refine qeO [22] (fun w' => SH w w' [Ch.own S5 (x6 : List Int) [.slice p11 x3.length x3.length], Ch.box bb2 [.slice p1 a_0.Library.Cells.length k1, .slice p2 a_0.Design.Instances.length k2, .slice p3 a_0.Design.Nets.length k3, .slice p4 a_0.Design.Ports.length k4, .slice p5 a_0.Wires.length k5, .slice p6 r1.length k6, .slice p27 x14.length k22, .slice p21 x11.length k17, .slice p24 x12.length k19, .slice none 0 0] 94]) rfl 23 rfl #[ff, ff, ff, ff, ff, ff, ff, ff, ff, ff, ff, ff, ff, ff, ff, ff, ff, ff, ff, ff, ff, ff, ff] (by kernel_rfl) (fun w36 hb => ?_)
    replace h := h.ext hb
    clear hb
    refine qi 0 rfl #[tt, ff, ff, ff, ff, ff, ff, ff, ff, ff, ff, ff, ff, ff, ff, ff, ff, ff, ff, ff, ff, ff, ff] (by kernel_rfl) (by kernel_rfl) (fun w' hw => v_p qc rfl w') (h.pick [3, 5] rfl) rfl ?_
    refine qi 1 rfl #[tt, tt, ff, ff, ff, ff, ff, ff, ff, ff, ff, ff, ff, ff, ff, ff, ff, ff, ff, ff, ff, ff, ff] (by kernel_rfl) (by kernel_rfl) (fun w' hw => v_p qc rfl w') (h.pick [3, 5] rfl) rfl ?_
    refine qi 2 rfl #[tt, tt, tt, ff, ff, ff, ff, ff, ff, ff, ff, ff, ff, ff, ff, ff, ff, ff, ff, ff, ff, ff, ff] (by kernel_rfl) (by kernel_rfl) (fun w' hw => v_p qc rfl w') (h.pick [3, 5] rfl) rfl ?_
    refine qi 3 rfl #[tt, tt, tt, tt, ff, ff, ff, ff, ff, ff, ff, ff, ff, ff, ff, ff, ff, ff, ff, ff, ff, ff, ff] (by kernel_rfl) (by kernel_rfl) (fun w' hw => v_p qc rfl w') (h.pick [3, 5] rfl) rfl ?_
    refine qi 4 rfl #[tt, tt, tt, tt, tt, ff, ff, ff, ff, ff, ff, ff, ff, ff, ff, ff, ff, ff, ff, ff, ff, ff, ff] (by kernel_rfl) (by kernel_rfl) (fun w' hw => qbj qc (hw.box 1 rfl) (j := 6) rfl rfl rfl) (h.pick [3, 5] rfl) rfl ?_
    refine qi 5 rfl #[tt, tt, tt, tt, tt, tt, ff, ff, ff, ff, ff, ff, ff, ff, ff, ff, ff, ff, ff, ff, ff, ff, ff] (by kernel_rfl) (by kernel_rfl) (fun w' hw => v_p qc rfl w') (h.pick [3, 5] rfl) rfl ?_
    refine qi 6 rfl #[tt, tt, tt, tt, tt, tt, tt, ff, ff, ff, ff, ff, ff, ff, ff, ff, ff, ff, ff, ff, ff, ff, ff] (by kernel_rfl) (by kernel_rfl) (fun w' hw => v_p qc rfl w') (h.pick [3, 5] rfl) rfl ?_
    obtain ⟨y8, hy8, hF⟩ := qd hF
    have he8 := qg hy8
    obtain ⟨b9, o_7, q9, cs9, hp9, hq9, -, hr13, hc13⟩ := (h.sl 3 rfl).1.at hy8
    obtain rfl := hr13
    refine qi 7 rfl #[tt, tt, tt, tt, tt, tt, tt, tt, ff, ff, ff, ff, ff, ff, ff, ff, ff, ff, ff, ff, ff, ff, ff] (by kernel_rfl) (by kernel_rfl) (fun w' hw => qe3 qc hp9 hq9 ⟨he8.1, qa0 he8.2.1 (h.sl 3 rfl).2⟩ rfl rfl rfl rfl rfl rfl) (h.pick [3, 5] rfl) rfl ?_
    refine qi 8 rfl #[tt, tt, tt, tt, tt, tt, tt, tt, tt, ff, ff, ff, ff, ff, ff, ff, ff, ff, ff, ff, ff, ff, ff] (by kernel_rfl) (by kernel_rfl) (fun w' hw => qbj qc (qgS (w1 := w) (S1 := fun _ => False) hw 0 rfl hy8 hp9 hq9 rfl) (j := 0) rfl rfl rfl) (h.pick [3, 5] rfl) rfl ?_
    refine qi 9 rfl #[tt, tt, tt, tt, tt, tt, tt, tt, tt, tt, ff, ff, ff, ff, ff, ff, ff, ff, ff, ff, ff, ff, ff] (by kernel_rfl) (by kernel_rfl) (fun w' hw => v_p qc rfl w') (h.pick [3, 5] rfl) rfl ?_
    refine qi 10 rfl #[tt, tt, tt, tt, tt, tt, tt, tt, tt, tt, tt, ff, ff, ff, ff, ff, ff, ff, ff, ff, ff, ff, ff] (by kernel_rfl) (by kernel_rfl) (fun w' hw => v_p qc rfl w') (h.pick [3, 5] rfl) rfl ?_
    refine qi 11 rfl #[tt, tt, tt, tt, tt, tt, tt, tt, tt, tt, tt, tt, ff, ff, ff, ff, ff, ff, ff, ff, ff, ff, ff] (by kernel_rfl) (by kernel_rfl) (fun w' hw => v_p qc rfl w') (h.pick [3, 5] rfl) rfl ?_
    refine qi 12 rfl #[tt, tt, tt, tt, tt, tt, tt, tt, tt, tt, tt, tt, tt, ff, ff, ff, ff, ff, ff, ff, ff, ff, ff] (by kernel_rfl) (by kernel_rfl) (fun w' hw => v_p qc rfl w') (h.pick [3, 5] rfl) rfl ?_
    refine qi 13 rfl #[tt, tt, tt, tt, tt, tt, tt, tt, tt, tt, tt, tt, tt, tt, ff, ff, ff, ff, ff, ff, ff, ff, ff] (by kernel_rfl) (by kernel_rfl) (fun w' hw => v_p qc rfl w') (h.pick [3, 5] rfl) rfl ?_
    refine qi 14 rfl #[tt, tt, tt, tt, tt, tt, tt, tt, tt, tt, tt, tt, tt, tt, tt, ff, ff, ff, ff, ff, ff, ff, ff] (by kernel_rfl) (by kernel_rfl) (fun w' hw => v_p qc rfl w') (h.pick [3, 5] rfl) rfl ?_
    refine qi 15 rfl #[tt, tt, tt, tt, tt, tt, tt, tt, tt, tt, tt, tt, tt, tt, tt, tt, ff, ff, ff, ff, ff, ff, ff] (by kernel_rfl) (by kernel_rfl) (fun w' hw => v_p qc rfl w') (h.pick [3, 5] rfl) rfl ?_
    refine qi 16 rfl #[tt, tt, tt, tt, tt, tt, tt, tt, tt, tt, tt, tt, tt, tt, tt, tt, tt, ff, ff, ff, ff, ff, ff] (by kernel_rfl) (by kernel_rfl) (fun w' hw => v_p qc rfl w') (h.pick [3, 5] rfl) rfl ?_
    refine qi 17 rfl #[tt, tt, tt, tt, tt, tt, tt, tt, tt, tt, tt, tt, tt, tt, tt, tt, tt, tt, ff, ff, ff, ff, ff] (by kernel_rfl) (by kernel_rfl) (fun w' hw => qgr qc [0, 1, 2, 3] [.tmp 141, .tmp 145, .const (.int .i64 (2)), .tmp 146] rfl rfl rfl rfl rfl rfl rfl rfl) (h.pick [3, 5] rfl) rfl ?_
    refine qab 18 rfl #[tt, tt, tt, tt, tt, tt, tt, tt, tt, tt, tt, tt, tt, tt, tt, tt, tt, tt, tt, ff, ff, ff, ff] (by kernel_rfl) (by kernel_rfl) ?_
    refine qaP qc [.tmp 147] _ ([(⟨W64 ((W64 (2 * y8)) + i6), W64 ((W64 (2 * y7)) + i6), 2, i5⟩ : qbh)] : List qbh) h rfl rfl rfl rfl rfl rfl rfl rfl rfl ⟨(qmv (⟨W64 ((W64 (2 * y8)) + i6), W64 ((W64 (2 * y7)) + i6), 2, i5⟩ : qbh)), trivial⟩ rfl ?_
    intro w37 p28 S24 h
    refine qW (fun _ => (h.pick [4, 6] rfl)) ?_
    refine qab 19 rfl #[tt, tt, tt, tt, tt, tt, tt, tt, tt, tt, tt, tt, tt, tt, tt, tt, tt, tt, tt, tt, ff, ff, ff] (by kernel_rfl) (by kernel_rfl) ?_
    obtain ⟨x15, hx7, hF⟩ := qd hF
    obtain ⟨g9, hx7⟩ := qbr hx7
    refine qeq qc 5 h rfl (h.sl 0 rfl).1 (h.sl 0 rfl).2 rfl rfl rfl rfl rfl rfl rfl rfl rfl g9 hx7 rfl ?_
    intro w38 p29 k23 S25 h
    refine qW (fun _ => (h.pick [4, 6] rfl)) ?_
    refine qab 20 rfl #[tt, tt, tt, tt, tt, tt, tt, tt, tt, tt, tt, tt, tt, tt, tt, tt, tt, tt, tt, tt, tt, ff, ff] (by kernel_rfl) (by kernel_rfl) ?_
    refine zp1 rfl ?_
    refine qW (fun _ => (h.pick [4, 6] rfl)) ?_
    refine qi 21 rfl #[tt, tt, tt, tt, tt, tt, tt, tt, tt, tt, tt, tt, tt, tt, tt, tt, tt, tt, tt, tt, tt, tt, ff] (by kernel_rfl) (by kernel_rfl) (fun w' hw => v_p qc rfl w') (h.pick [4, 6] rfl) rfl ?_
    refine qab 22 rfl #[tt, tt, tt, tt, tt, tt, tt, tt, tt, tt, tt, tt, tt, tt, tt, tt, tt, tt, tt, tt, tt, tt, tt] (by kernel_rfl) (by kernel_rfl) ?_
    refine zs 6 h rfl ?_
    intro w39 h
    refine qW (fun hs => absurd (hs 22 (by decide)) (by decide)) ?_
    refine qcp (by kernel_rfl) ?_
    refine qfL (qE (zp2 rfl (qb ?_)))
    replace h := h.pick [1, 2, 3, 4, 5, 6, 7, 8] rfl
    exact qA m5 [(1, _), (3, _), (7, _), (8, _), (11, _), (12, _), (13, _), (87, _), (88, _), (120, _), (121, _), (122, _), (127, _)] (Nat.lt_succ_self m5) ⟨rfl, rfl, rfl, rfl, rfl, rfl, rfl, rfl, rfl, rfl, rfl, rfl, rfl, trivial⟩ ⟨_, _, _, _, _, _, hF, rfl, h⟩
   refine qI rfl ?_
   obtain rfl := qj hF; replace hF := hK5
   exact qfL (qE (zp2 rfl (qb (qA m4 [(1, _), (3, _), (7, _), (8, _), (11, _), (87, _), (88, _), (120, _), (121, _), (122, _)] (Nat.lt_succ_self m4) ⟨rfl, rfl, rfl, rfl, rfl, rfl, rfl, rfl, rfl, rfl, trivial⟩ ⟨_, _, _, _, _, _, hF, rfl, h⟩))))
  refine qI rfl ?_
  obtain rfl := qj hF; replace hF := hK4
  refine qfL (qE (zp2 rfl (qb ?_)))
  replace h := h.unlrn 2 rfl
  exact qA m3 [(1, _), (3, _), (7, _), (8, _), (87, _), (88, _)] (Nat.lt_succ_self m3) ⟨rfl, rfl, rfl, rfl, rfl, rfl, trivial⟩ ⟨_, _, _, _, _, _, _, _, _, _, _, _, _, _, _, _, hF, rfl, h⟩
 refine qI rfl ?_
 obtain rfl := qj hF; replace hF := hK3
 refine zSR (zp2 rfl (qb ?_))
 obtain rfl := qj hF
 have hv1 : GoRs.Rs _ (reg A w _) (some (⟨(⟨(⟨a_0.Library.Cells⟩ : qt), (⟨a_0.Design.Instances, a_0.Design.Nets, a_0.Design.Ports⟩ : qk), a_0.Wires⟩ : qy), r1, x10, x9, x8, []⟩ : Tview)) [GoT.v (Option Tview) [.pointer (some ⟨bb2, 0, none⟩)]] := ⟨_, rfl, (hg.outR h (Rg.boxR (x := (⟨(⟨(⟨a_0.Library.Cells⟩ : qt), (⟨a_0.Design.Instances, a_0.Design.Nets, a_0.Design.Ports⟩ : qk), a_0.Wires⟩ : qy), r1, x10, x9, x8, []⟩ : Tview)) 5 h rfl (⟨[.slice p1 a_0.Library.Cells.length k1, .slice p2 a_0.Design.Instances.length k2, .slice p3 a_0.Design.Nets.length k3, .slice p4 a_0.Design.Ports.length k4, .slice p5 a_0.Wires.length k5], [.slice p6 r1.length k6, .slice p18 x10.length k15, .slice p17 x9.length k14, .slice p16 x8.length k13, .slice none 0 0], rfl, ⟨[.slice p1 a_0.Library.Cells.length k1], [.slice p2 a_0.Design.Instances.length k2, .slice p3 a_0.Design.Nets.length k3, .slice p4 a_0.Design.Ports.length k4, .slice p5 a_0.Wires.length k5], rfl, ⟨_, _, rfl, (hg.inS h s1)⟩, ⟨[.slice p2 a_0.Design.Instances.length k2, .slice p3 a_0.Design.Nets.length k3, .slice p4 a_0.Design.Ports.length k4], [.slice p5 a_0.Wires.length k5], rfl, ⟨[.slice p2 a_0.Design.Instances.length k2], [.slice p3 a_0.Design.Nets.length k3, .slice p4 a_0.Design.Ports.length k4], rfl, ⟨_, _, rfl, (hg.inS h s2)⟩, ⟨[.slice p3 a_0.Design.Nets.length k3], [.slice p4 a_0.Design.Ports.length k4], rfl, ⟨_, _, rfl, (hg.inS h s3)⟩, ⟨_, _, rfl, (hg.inS h s4)⟩⟩⟩, ⟨_, _, rfl, (hg.inS h s5)⟩⟩⟩, ⟨[.slice p6 r1.length k6], [.slice p18 x10.length k15, .slice p17 x9.length k14, .slice p16 x8.length k13, .slice none 0 0], rfl, (Rg.ownR 6 h rfl), ⟨[.slice p18 x10.length k15], [.slice p17 x9.length k14, .slice p16 x8.length k13, .slice none 0 0], rfl, (Rg.ownR 4 h rfl), ⟨[.slice p17 x9.length k14], [.slice p16 x8.length k13, .slice none 0 0], rfl, (Rg.ownR 1 h rfl), ⟨[.slice p16 x8.length k13], [.slice none 0 0], rfl, (Rg.ownR 0 h rfl), ⟨_, _, rfl, qqr⟩⟩⟩⟩⟩⟩)))⟩
 exact qom qc (ρ := (Option Tview)) (r := (some (⟨(⟨(⟨a_0.Library.Cells⟩ : qt), (⟨a_0.Design.Instances, a_0.Design.Nets, a_0.Design.Ports⟩ : qk), a_0.Wires⟩ : qy), r1, x10, x9, x8, []⟩ : Tview))) [GoT.v (Option Tview) [.pointer (some ⟨bb2, 0, none⟩)]] h ⟨rfl, trivial⟩ hv1

def qdg (_ : Nat) (v : (Option Tview)) (p : Tplace) : Option Bool :=
 bif decide (p.instance_ ≥ 0) then
  (v).bind fun y1 =>
  (idx y1.Block.Design.Instances p.instance_).bind fun y2 =>
  (idx y1.Block.Library.Cells y2.Cell).bind fun y3 =>
  (idx y3.Pins p.pin).bind fun y4 =>
  some y4.Clock
 else
  some false

theorem qit {n : Nat} {w : World} {v : (Option Tview)} {p : Tplace} {cs1 : List Value} (ha1 : GoT.R w (old w) v cs1) {cs2 : List Value} (ha2 : GoT.R w (old w) p cs2) {r : Bool} (hF : qdg n v p = some r) : RetV Tryz.prog 101 [GoT.v (Option Tview) cs1, GoT.v Tplace cs2] w r := by
 obtain ⟨p1, rfl, s1⟩ := qi6 ha1
 obtain rfl := qdh ha2
 refine qe Tryz.func101 rfl (m := 35) rfl rfl (fun h => ?_)
 rw [qdg] at hF
 refine zSR (qM h rfl rfl ?_)
 intro w1 bb1 h
 refine zp1 rfl (zNS ?_)
 refine qco rfl (by kernel_rfl) ?_
 refine zd1 rfl ?_
 refine zdl 0 0 h rfl ?_
 refine zd2 rfl ?_
 by_cases hc1 : (decide (p.instance_ ≥ 0)) = true
 ·replace hF := bifT hc1 hF
  refine qb0 hc1 (t := 8) rfl (qf rfl (zd1 rfl (qf rfl ?_)))
  obtain ⟨y1, hy1, hF⟩ := qd hF
  obtain ⟨b1, o_1, cs3, rfl, -, hr1, hc2⟩ := PtR.get s1 hy1
  obtain ⟨p2, k1, p3, k2, p4, k3, p5, k4, p6, k5, p7, k6, p8, k7, p9, k8, p10, k9, p11, k10, rfl, s2, s3, s4, s5, s6, s7, s8, s9, s10, s11⟩ := qiA hr1
  refine zd1 rfl (qf rfl (zd1 rfl (qf rfl (zd1 rfl (qf rfl (zd1 rfl (qf rfl ?_)))))))
  refine zdc 0 (hc2.below h.below) rfl ?_
  refine qf rfl (zd1 rfl (qf rfl (zd1 rfl (qf rfl (zd1 rfl (qf rfl (zd1 rfl (qf rfl (zd1 rfl (qf rfl ?_))))))))))
  refine zdc 1 (hc2.below h.below) rfl ?_
  refine qf rfl (zd1 rfl (qf rfl ?_))
  refine zdl 0 0 h rfl ?_
  refine qf rfl ?_
  obtain ⟨y2, hy2, hF⟩ := qd hF
  have he1 := qg hy2
  obtain ⟨b2, o_2, q1, cs4, hp1, hq1, -, hr2, hc3⟩ := s3.at hy2
  obtain ⟨p12, k11, rfl, s12⟩ := qX hr2
  refine zdxe hp1 hq1 he1 rfl ?_
  refine qf rfl (zd1 rfl (qf rfl ?_))
  refine zdc 1 (hc3.below h.below) rfl ?_
  refine qf rfl ?_
  obtain ⟨y3, hy3, hF⟩ := qd hF
  have he2 := qg hy3
  obtain ⟨b3, o_3, q2, cs5, hp2, hq2, -, hr3, hc4⟩ := s2.at hy3
  obtain ⟨p13, k12, p14, k13, p15, k14, rfl, s13, s14, s15⟩ := qV hr3
  refine zdxe hp2 hq2 he2 rfl ?_
  refine qf rfl (zd1 rfl (qf rfl ?_))
  refine zdc 2 (hc4.below h.below) rfl ?_
  refine qf rfl (zd1 rfl (qf rfl ?_))
  refine zdl 0 1 h rfl ?_
  refine qf rfl ?_
  obtain ⟨y4, hy4, hF⟩ := qd hF
  have he3 := qg hy4
  obtain ⟨b4, o_4, q3, cs6, hp3, hq3, -, hr4, hc5⟩ := s13.at hy4
  obtain rfl := qbq hr4
  refine zdxe hp3 hq3 he3 rfl ?_
  refine qf rfl (zd1 rfl (qf rfl ?_))
  refine zdc 3 (hc5.below h.below) rfl ?_
  refine zd2 rfl ?_
  refine qaX (fun w2 hb => ?_)
  replace h := h.ext hb
  clear hb
  exact qu qc h hF ⟨rfl, trivial⟩
 replace hc1 := zb hc1
 replace hF := bifF hc1 hF
 refine qb3 hc1 (t := 8) rfl (qh rfl rfl rfl (qh rfl rfl rfl (qh rfl rfl rfl (qh rfl rfl rfl (qh rfl rfl rfl (qh rfl rfl rfl (qh rfl rfl rfl (qh rfl rfl rfl (qh rfl rfl rfl (qh rfl rfl rfl (qh rfl rfl rfl ?_)))))))))))
 refine qh rfl rfl rfl (qh rfl rfl rfl (qh rfl rfl rfl (qh rfl rfl rfl (qh rfl rfl rfl (qh rfl rfl rfl (qh rfl rfl rfl (qh rfl rfl rfl (qh rfl rfl rfl (qh rfl rfl rfl (qh rfl rfl rfl (qh rfl rfl rfl ?_)))))))))))
 refine qh rfl rfl rfl (qh rfl rfl rfl (zd2 rfl ?_))
 refine qaX (fun w3 hb => ?_)
 replace h := h.ext hb
 clear hb
 exact qu qc h hF ⟨rfl, trivial⟩

def qei (_ : Nat) (b : qy) (a_instance : Int) : Option qD :=
 (idx b.Design.Instances a_instance).bind fun y1 =>
 (idx b.Library.Cells y1.Cell).bind fun y2 =>
 some y2

theorem qhi {n : Nat} {w : World} {A : Nat → Prop} (hA : ∀ b, A b → old w b) {b : qy} {a_instance : Int} {cs1 : List Value} (ha1 : GoT.R w A b cs1) {r : qD} (hF : qei n b a_instance = some r) : RetG Tryz.prog 102 [GoT.v qy cs1, .int .i64 a_instance] w A r := by
 obtain ⟨p1, k1, p2, k2, p3, k3, p4, k4, p5, k5, rfl, s1, s2, s3, s4, s5⟩ := qas ha1
 have hg := Rg.start hA
 refine qi7 Tryz.func102 rfl (m := 17) rfl rfl (fun h => ?_)
 rw [qei] at hF
 refine zSR (qM h rfl rfl ?_)
 intro w1 bb1 h
 refine qU qc h rfl rfl rfl ?_
 intro w2 bb2 h
 refine zNS ?_
 refine qeO [] (fun w' => SH w w' [Ch.box bb1 [.slice p1 b.Library.Cells.length k1, .slice p2 b.Design.Instances.length k2, .slice p3 b.Design.Nets.length k3, .slice p4 b.Design.Ports.length k4, .slice p5 b.Wires.length k5] 48]) rfl 13 rfl #[ff, ff, ff, ff, ff, ff, ff, ff, ff, ff, ff, ff, ff] (by kernel_rfl) (fun w3 hb => ?_)
 replace h := h.ext hb
 clear hb
 refine qi 0 rfl #[tt, ff, ff, ff, ff, ff, ff, ff, ff, ff, ff, ff, ff] (by kernel_rfl) (by kernel_rfl) (fun w' hw => v_p qc rfl w') (h.pick [1] rfl) rfl ?_
 refine qi 1 rfl #[tt, tt, ff, ff, ff, ff, ff, ff, ff, ff, ff, ff, ff] (by kernel_rfl) (by kernel_rfl) (fun w' hw => v_p qc rfl w') (h.pick [1] rfl) rfl ?_
 refine qi 2 rfl #[tt, tt, tt, ff, ff, ff, ff, ff, ff, ff, ff, ff, ff] (by kernel_rfl) (by kernel_rfl) (fun w' hw => qbj qc (hw.box 0 rfl) (j := 0) rfl rfl rfl) (h.pick [1] rfl) rfl ?_
 refine qi 3 rfl #[tt, tt, tt, tt, ff, ff, ff, ff, ff, ff, ff, ff, ff] (by kernel_rfl) (by kernel_rfl) (fun w' hw => v_p qc rfl w') (h.pick [1] rfl) rfl ?_
 refine qi 4 rfl #[tt, tt, tt, tt, tt, ff, ff, ff, ff, ff, ff, ff, ff] (by kernel_rfl) (by kernel_rfl) (fun w' hw => v_p qc rfl w') (h.pick [1] rfl) rfl ?_
 refine qi 5 rfl #[tt, tt, tt, tt, tt, tt, ff, ff, ff, ff, ff, ff, ff] (by kernel_rfl) (by kernel_rfl) (fun w' hw => qbj qc (hw.box 0 rfl) (j := 1) rfl rfl rfl) (h.pick [1] rfl) rfl ?_
 refine qi 6 rfl #[tt, tt, tt, tt, tt, tt, tt, ff, ff, ff, ff, ff, ff] (by kernel_rfl) (by kernel_rfl) (fun w' hw => v_p qc rfl w') (h.pick [1] rfl) rfl ?_
 obtain ⟨y1, hy1, hF⟩ := qd hF
 have he1 := qg hy1
 obtain ⟨b1, o_1, q1, cs2, hp1, hq1, -, hr1, hc1⟩ := s2.at hy1
 obtain ⟨p6, k6, rfl, s6⟩ := qX hr1
 refine qi 7 rfl #[tt, tt, tt, tt, tt, tt, tt, tt, ff, ff, ff, ff, ff] (by kernel_rfl) (by kernel_rfl) (fun w' hw => qe3 qc hp1 hq1 ⟨he1.1, he1.2.1⟩ rfl rfl rfl rfl rfl rfl) (h.pick [1] rfl) rfl ?_
 refine qi 8 rfl #[tt, tt, tt, tt, tt, tt, tt, tt, tt, ff, ff, ff, ff] (by kernel_rfl) (by kernel_rfl) (fun w' hw => v_p qc rfl w') (h.pick [1] rfl) rfl ?_
 refine qi 9 rfl #[tt, tt, tt, tt, tt, tt, tt, tt, tt, tt, ff, ff, ff] (by kernel_rfl) (by kernel_rfl) (fun w' hw => qbj qc (hc1.below hw.below) (j := 1) rfl rfl rfl) (h.pick [1] rfl) rfl ?_
 obtain ⟨y2, hy2, hF⟩ := qd hF
 have he2 := qg hy2
 obtain ⟨b2, o_2, q2, cs3, hp2, hq2, -, hr2, hc2⟩ := s1.at hy2
 obtain ⟨p7, k7, p8, k8, p9, k9, rfl, s7, s8, s9⟩ := qV hr2
 refine qi 10 rfl #[tt, tt, tt, tt, tt, tt, tt, tt, tt, tt, tt, ff, ff] (by kernel_rfl) (by kernel_rfl) (fun w' hw => qe3 qc hp2 hq2 ⟨he2.1, he2.2.1⟩ rfl rfl rfl rfl rfl rfl) (h.pick [1] rfl) rfl ?_
 refine qi 11 rfl #[tt, tt, tt, tt, tt, tt, tt, tt, tt, tt, tt, tt, ff] (by kernel_rfl) (by kernel_rfl) (fun w' hw => qbj qc (hc2.below hw.below) (j := 0) rfl rfl rfl) (h.pick [1] rfl) rfl ?_
 refine qab 12 rfl #[tt, tt, tt, tt, tt, tt, tt, tt, tt, tt, tt, tt, tt] (by kernel_rfl) (by kernel_rfl) ?_
 refine zs 0 h rfl ?_
 intro w4 h
 replace h : SH _ _ [Ch.box bb2 [.string y2.Name, .int .i64 y2.Kind, .slice p7 y2.Pins.length k7, .slice p8 y2.Arcs.length k8, .slice p9 y2.Truth.length k9, .int .i64 y2.Leak, .int .i64 y2.Energy] 155, Ch.box bb1 [.slice p1 b.Library.Cells.length k1, .slice p2 b.Design.Instances.length k2, .slice p3 b.Design.Nets.length k3, .slice p4 b.Design.Ports.length k4, .slice p5 b.Wires.length k5] 48] := h
 refine qW (fun _ => (h.pick [1] rfl)) ?_
 refine qcp (by kernel_rfl) ?_
 obtain rfl := qj hF
 have hv1 : GoRs.Rs _ (reg A w _) y2 [GoT.v qD [.string y2.Name, .int .i64 y2.Kind, .slice p7 y2.Pins.length k7, .slice p8 y2.Arcs.length k8, .slice p9 y2.Truth.length k9, .int .i64 y2.Leak, .int .i64 y2.Energy]] := ⟨_, rfl, (hg.outR h (qgg y2 (hg.inS h s7) (hg.inS h s8) (hg.inS h s9)))⟩
 exact qom qc (ρ := qD) (r := y2) [GoT.v qD [.string y2.Name, .int .i64 y2.Kind, .slice p7 y2.Pins.length k7, .slice p8 y2.Arcs.length k8, .slice p9 y2.Truth.length k9, .int .i64 y2.Leak, .int .i64 y2.Energy]] h ⟨⟨_, _, _, rfl, rfl, h.box 0 rfl, rfl⟩, trivial⟩ hv1

def qgx (_ : Nat) (a : qac) : Option Bool :=
 bif (a.Kind == 1) then
  some true
 else
  bif (a.Kind == 2) then
   some true
  else
   some (a.Kind == 3)

theorem qj0 {n : Nat} {w : World} {a : qac} {cs1 : List Value} (ha1 : GoT.R w (old w) a cs1) {r : Bool} (hF : qgx n a = some r) : RetV Tryz.prog 105 [GoT.v qac cs1] w r := by
 obtain ⟨p1, k1, p2, k2, rfl, s1, s2⟩ := qat ha1
 refine qe Tryz.func105 rfl (m := 16) rfl rfl (fun h => ?_)
 rw [qgx] at hF
 refine zSR (qM h rfl rfl ?_)
 intro w1 bb1 h
 refine zp1 rfl (zNSR (zp1 rfl (zl 0 0 h rfl (zp2 rfl ?_))))
 by_cases hc1 : (a.Kind == 1) = true
 ·replace hF := bifT hc1 hF
  refine qC hc1 (t := 6) rfl (zn3 rfl (zp2 rfl (zn3 rfl (zp2 rfl (qb ?_)))))
  exact qu qc h hF ⟨rfl, trivial⟩
 replace hc1 := zb hc1
 replace hF := bifF hc1 hF
 refine qB hc1 (t := 6) rfl (qa rfl (zp1 rfl (qa rfl (zl 0 0 h rfl (qa rfl (zp3 rfl ?_))))))
 by_cases hc2 : (a.Kind == 2) = true
 ·replace hF := bifT hc2 hF
  exact qC hc2 (t := 11) rfl (zn3 rfl (zp2 rfl (qb (qu qc h hF ⟨rfl, trivial⟩))))
 replace hc2 := zb hc2
 replace hF := bifF hc2 hF
 exact qB hc2 (t := 11) rfl (qa rfl (zp1 rfl (qa rfl (zl 0 0 h rfl (qa rfl (zp3 rfl (qb (qu qc h hF ⟨rfl, trivial⟩))))))))

def qcE (n : Nat) (a : qac) (v0 : Tplace) : Option Bool :=
 (qgx n a).bind fun r1 =>
 bif r1 then
  some (a.From == v0.pin)
 else
  some false

theorem qhZ {n : Nat} {w : World} {a : qac} {v0 : Tplace} {cs1 : List Value} (ha1 : GoT.R w (old w) a cs1) {p3 : Option Addr} (ha2 : GoT.R w (old w) (some v0) [.pointer p3]) {r : Bool} (hF : qcE n a v0 = some r) : RetV Tryz.prog 104 [GoT.v qac cs1, .pointer p3] w r := by
 obtain ⟨p1, k1, p2, k2, rfl, s1, s2⟩ := qat ha1
 obtain ⟨b1, o_1, cs2, rfl, -, hr1, hc1⟩ := PtR.get ha2 rfl
 obtain rfl := qdh hr1
 refine qe Tryz.func104 rfl (m := 13) rfl rfl (fun h => ?_)
 rw [qcE] at hF
 refine zSR (qM h rfl rfl ?_)
 intro w1 bb1 h
 refine zp1 rfl (zNSR (zl 0 0 h rfl ?_))
 obtain ⟨r1, hr2, hF⟩ := qd hF
 refine ql r1 h call105 (qj0 (h.old ha1) hr2) rfl rfl rfl rfl ?_
 intro w2 h
 refine zp1 rfl ?_
 by_cases hc2 : r1 = true
 ·replace hF := bifT hc2 hF
  refine qC hc2 (t := 6) rfl (qa rfl (zp1 rfl (qa rfl (zl 0 1 h rfl (qa rfl (zp1 rfl (qa rfl (zc 1 (hc1.below h.below) rfl (qa rfl (zp2 rfl ?_))))))))))
  exact zp1 rfl (qb (qu qc h hF ⟨rfl, trivial⟩))
 replace hc2 := zb hc2
 replace hF := bifF hc2 hF
 exact qB hc2 (t := 6) rfl (zn5 rfl (zp2 rfl (qb (qu qc h hF ⟨rfl, trivial⟩))))

def qG (s : (List qac)) (f_0 : Tplace) : Nat → Int → Option (Flow Int Int)
 | 0, _ => none
 | n + 1, i1 =>
  bif decide (i1 < (s.length : Int)) then
   (idx s i1).bind fun y1 =>
   (qcE n y1 f_0).bind fun r1 =>
   bif r1 then
    some (.ret i1)
   else
    qG s f_0 n (W64 (i1 + 1))
  else
   some (.nxt i1)

def qau (n : Nat) (s : (List qac)) (f_0 : Tplace) : Option Int :=
 (qG s f_0 n 0).bind fun o => match o with
 | .ret r => some r
 | .nxt _ =>
  some (-1)

theorem qdK {n : Nat} {w : World} {s : (List qac)} {f_0 : Tplace} {cs1 : List Value} (ha1 : GoT.R w (old w) s cs1) {p2 : Option Addr} (ha2 : GoT.R w (old w) (some f_0) [.pointer p2]) {r : Int} (hF : qau n s f_0 = some r) : RetV Tryz.prog 141 [GoT.v (List qac) cs1, .func (.func 104) #[] #[.pointer p2]] w r := by
 obtain ⟨p1, k1, rfl, s1⟩ := ha1
 obtain ⟨b1, o_1, cs2, rfl, -, hr1, hc1⟩ := PtR.get ha2 rfl
 obtain rfl := qdh hr1
 refine qe Tryz.func141 rfl (m := 19) rfl rfl (fun h => ?_)
 rw [qau] at hF
 refine zSR (zp1 rfl (zNSSR (zp3 rfl (qb ?_))))
 obtain ⟨o1, hF, hK1⟩ := qd hF
 refine qz (qT [(0, _), (1, _), (7, _), (8, _)] ⟨rfl, rfl, rfl, rfl, trivial⟩ ?_)
 refine qH (fun m e w' => ∃ (i1 : Int), qG s f_0 m i1 = some o1 ∧ e = [(0, .slice p1 s.length k1), (1, .func (.func 104) #[] #[.pointer (some ⟨b1, o_1, none⟩)]), (7, .int .i64 (s.length : Int)), (8, .int .i64 i1)] ∧ SH w w' []) n ⟨_, hF, rfl, h⟩ ?_
 rintro m1 e1 w1 ⟨i1, hF, rfl, h⟩
 rcases m1 with _ | m1
 ·rw [qG] at hF
  cases hF
 rw [qG] at hF
 refine zSR (zp1 rfl (zNS ?_))
 refine qq rfl hF ?_ ?_ <;> intro hF
 ·refine zKSBSR (zp2 rfl (zNSR (zp2 rfl ?_)))
  refine zp1 rfl ?_
  obtain ⟨y1, hy1, hF⟩ := qd hF
  have he1 := qg hy1
  obtain ⟨b2, o_2, q1, cs3, hp1, hq1, -, hr2, hc3⟩ := s1.at hy1
  obtain ⟨p3, k2, p4, k3, rfl, s2, s3⟩ := qat hr2
  refine zxe hp1 hq1 he1 rfl (zc 0 (hc3.below h.below) rfl ?_)
  obtain ⟨r1, hr3, hF⟩ := qd hF
  refine ql r1 h call104 (qhZ (qfq y1 (h.oldS s2) (h.oldS s3)) (h.old ha2) hr3) rfl rfl rfl rfl ?_
  intro w2 h
  refine qb ?_
  refine qq rfl hF ?_ ?_ <;> intro hF
  ·refine zSR (zp2 rfl (qb ?_))
   obtain rfl := qj hF; replace hF := hK1
   exact qaB qc h hF ⟨rfl, trivial⟩
  exact zKER (zp2 rfl (qb (qA m1 [(0, _), (1, _), (7, _), (8, _)] (Nat.lt_succ_self m1) ⟨rfl, rfl, rfl, rfl, trivial⟩ ⟨_, hF, rfl, h⟩)))
 refine qI rfl ?_
 obtain rfl := qj hF; replace hF := hK1
 exact zSR (zp1 rfl (qb (qaB qc h hF ⟨rfl, trivial⟩)))

def qY (n : Nat) (s : (List qac)) (f_0 : Tplace) : Option Bool :=
 (qau n s f_0).bind fun r1 =>
 some (decide (r1 ≥ 0))

theorem qdB {n : Nat} {w : World} {s : (List qac)} {f_0 : Tplace} {cs1 : List Value} (ha1 : GoT.R w (old w) s cs1) {p2 : Option Addr} (ha2 : GoT.R w (old w) (some f_0) [.pointer p2]) {r : Bool} (hF : qY n s f_0 = some r) : RetV Tryz.prog 103 [GoT.v (List qac) cs1, .func (.func 104) #[] #[.pointer p2]] w r := by
 obtain ⟨p1, k1, rfl, s1⟩ := ha1
 obtain ⟨b1, o_1, cs2, rfl, -, hr1, hc1⟩ := PtR.get ha2 rfl
 obtain rfl := qdh hr1
 refine qe Tryz.func103 rfl (m := 9) rfl rfl (fun h => ?_)
 rw [qY] at hF
 refine zSR (zp1 rfl (zNSR (zp2 rfl ?_)))
 obtain ⟨r1, hr2, hF⟩ := qd hF
 refine qQ r1 h call141 (qdK ⟨_, _, rfl, (h.oldS s1)⟩ (h.old ha2) hr2) rfl rfl rfl rfl ?_
 intro w1 h
 exact zp2 rfl (qb (qu qc h hF ⟨rfl, trivial⟩))

end Go.Fw


namespace Go.Fw
open Go Go.Proofs
open Go.RowKit (Below)
set_option maxRecDepth 100000
def qag (a_0 : (Option Tview)) (y1 : Tview) (y2 : Tplace) : Nat → (List Int) → Int → Option ((List Int) × Int)
 | 0, _, _ => none
 | n + 1, x1, i1 =>
  bif decide (i1 < (y1.places.length : Int)) then
   (idx y1.places i1).bind fun y3 =>
   bif (y3.net == y2.net) then
    bif (!y3.drives) then
     (qdg n a_0 y3).bind fun r1 =>
     bif (!r1) then
      (appS x1 ([i1] : List Int)).bind fun x2 =>
      qag a_0 y1 y2 n x2 (W64 (i1 + 1))
     else
      qag a_0 y1 y2 n x1 (W64 (i1 + 1))
    else
     qag a_0 y1 y2 n x1 (W64 (i1 + 1))
   else
    qag a_0 y1 y2 n x1 (W64 (i1 + 1))
  else
   some (x1, i1)

def qdo (n : Nat) (a_0 : (Option Tview)) (a_1 : Int) : Option (List Int) :=
 (a_0).bind fun y1 =>
 (idx y1.places a_1).bind fun y2 =>
 bif y2.drives then
  (qag a_0 y1 y2 n ([] : List Int) 0).bind fun o => match o with
  | (x1, _) =>
   some x1
 else
  bif decide (y2.instance_ < 0) then
   some []
  else
   (qei n (⟨(⟨y1.Block.Library.Cells⟩ : qt), (⟨y1.Block.Design.Instances, y1.Block.Design.Nets, y1.Block.Design.Ports⟩ : qk), y1.Block.Wires⟩ : qy) y2.instance_).bind fun r2 =>
   (qY n r2.Arcs y2).bind fun r3 =>
   bif r3 then
    (qb4 n r2).bind fun r4 =>
    some ([W64 ((W64 (a_1 - y2.pin)) + r4)] : List Int)
   else
    some []

theorem qii {n : Nat} {w : World} {a_0 : (Option Tview)} {a_1 : Int} {cs1 : List Value} (ha1 : GoT.R w (old w) a_0 cs1) {r : (List Int)} (hF : qdo n a_0 a_1 = some r) : RetV Tryz.prog 53 [GoT.v (Option Tview) cs1, .int .i64 a_1] w r := by
 obtain ⟨p1, rfl, s1⟩ := qi6 ha1
 refine qe Tryz.func53 rfl (m := 73) rfl rfl (fun h => ?_)
 rw [qdo] at hF
 refine zSR (zp1 rfl (zNSR (zp1 rfl ?_)))
 obtain ⟨y1, hy1, hF⟩ := qd hF
 obtain ⟨b1, o_1, cs2, rfl, -, hr1, hc1⟩ := PtR.get s1 hy1
 obtain ⟨p2, k1, p3, k2, p4, k3, p5, k4, p6, k5, p7, k6, p8, k7, p9, k8, p10, k9, p11, k10, rfl, s2, s3, s4, s5, s6, s7, s8, s9, s10, s11⟩ := qiA hr1
 refine zp2 rfl (zc 5 (hc1.below h.below) rfl (zp1 rfl ?_))
 obtain ⟨y2, hy2, hF⟩ := qd hF
 have he1 := qg hy2
 obtain ⟨b2, o_2, q1, cs3, hp1, hq1, -, hr2, hc2⟩ := s7.at hy2
 obtain rfl := qdh hr2
 refine zxe hp1 hq1 he1 rfl (zc 0 (hc2.below h.below) rfl (qU qc h rfl rfl rfl ?_))
 intro w1 bb1 h
 refine zs 0 h rfl ?_
 intro w2 h
 refine zNSR (zp1 rfl (zNSSR (zp1 rfl (zl 0 3 h rfl (qb ?_)))))
 refine qq rfl hF ?_ ?_ <;> intro hF
 ·refine zSSR (zp3 rfl (zc 5 (hc1.below h.below) rfl (zp2 rfl (qb ?_))))
  replace h := h.nil (α := Int)
  obtain ⟨o1, hF, hK1⟩ := qd hF
  refine qz (qT [(0, _), (5, _), (6, _), (22, _), (23, _), (24, _)] ⟨rfl, rfl, rfl, rfl, rfl, rfl, trivial⟩ ?_)
  refine qH (fun m e w' => ∃ (S1 : Nat → Prop) (p12 : Option Addr) (ln1 : Nat) (k11 : Nat) (x1 : (List Int)) (i1 : Int), qag a_0 y1 y2 m x1 i1 = some o1 ∧ e = [(0, .pointer (some ⟨b1, o_1, none⟩)), (5, .pointer (some ⟨bb1, 0, none⟩)), (6, .slice p12 ln1 k11), (22, .slice p7 y1.places.length k6), (23, .int .i64 (y1.places.length : Int)), (24, .int .i64 i1)] ∧ SH w w' [Ch.own S1 (x1 : List Int) [.slice p12 ln1 k11], Ch.box bb1 [.int .i64 y2.instance_, .int .i64 y2.pin, .int .i64 y2.net, .bool y2.drives] 97]) n ⟨_, _, _, _, _, _, hF, rfl, h⟩ ?_
  rintro m1 e1 w3 ⟨S1, p12, ln1, k11, x1, i1, hF, rfl, h⟩
  obtain rfl := (h.sl 0 rfl).2
  rcases m1 with _ | m1
  ·rw [qag] at hF
   cases hF
  rw [qag] at hF
  refine zSR (zp1 rfl (zNS ?_))
  refine qq rfl hF ?_ ?_ <;> intro hF
  ·refine zKSBSR (zp1 rfl ?_)
   obtain ⟨y3, hy3, hF⟩ := qd hF
   have he2 := qg hy3
   obtain ⟨b3, o_3, q2, cs4, hp2, hq2, -, hr3, hc5⟩ := s7.at hy3
   obtain rfl := qdh hr3
   refine zxe hp2 hq2 he2 rfl (zc 0 (hc5.below h.below) rfl (qU qc h rfl rfl rfl ?_))
   intro w4 bb2 h
   refine zp1 rfl (zs 0 h rfl ?_)
   intro w5 h
   refine zNSR (zp1 rfl (zl 0 2 h rfl (zp1 rfl (zl 2 2 h rfl (zp2 rfl ?_)))))
   by_cases hc6 : (y3.net == y2.net) = true
   ·replace hF := bifT hc6 hF
    refine qC hc6 (t := 34) rfl (qa rfl (zp1 rfl (qa rfl (zl 0 3 h rfl (qa rfl (zp3 rfl ?_))))))
    by_cases hc7 : (!y3.drives) = true
    ·replace hF := bifT hc7 hF
     refine qC hc7 (t := 39) rfl (qa rfl (zp1 rfl (qa rfl (zl 0 0 h rfl (qa rfl ?_)))))
     obtain ⟨r1, hr4, hF⟩ := qd hF
     refine ql r1 h call101 (qit (h.old s1) (qgT y3) hr4) rfl rfl rfl rfl ?_
     intro w6 h
     refine qa rfl (zp2 rfl (qb ?_))
     refine qq rfl hF ?_ ?_ <;> intro hF
     ·refine qE (zp2 rfl (qaP qc [.tmp 46] _ ([i1] : List Int) h rfl rfl rfl rfl rfl rfl rfl rfl rfl ⟨rfl, trivial⟩ rfl ?_))
      intro w7 p13 S2 h
      obtain ⟨x2, hx1, hF⟩ := qd hF
      obtain ⟨g1, hx1⟩ := qbr hx1
      refine qeq qc 2 h rfl (h.sl 0 rfl).1 (h.sl 0 rfl).2 rfl rfl rfl rfl rfl rfl rfl rfl rfl g1 hx1 rfl ?_
      intro w8 p14 k12 S3 h
      refine zp1 rfl (zNER (zp2 rfl (qb ?_)))
      replace h := h.pick [2, 3] rfl
      exact qA m1 [(0, _), (5, _), (6, _), (22, _), (23, _), (24, _)] (Nat.lt_succ_self m1) ⟨rfl, rfl, rfl, rfl, rfl, rfl, trivial⟩ ⟨_, _, _, _, _, _, hF, rfl, h⟩
     refine zKER (zp2 rfl (qb ?_))
     replace h := h.pick [1, 2] rfl
     exact qA m1 [(0, _), (5, _), (6, _), (22, _), (23, _), (24, _)] (Nat.lt_succ_self m1) ⟨rfl, rfl, rfl, rfl, rfl, rfl, trivial⟩ ⟨_, _, _, _, _, _, hF, rfl, h⟩
    replace hc7 := zb hc7
    replace hF := bifF hc7 hF
    refine qB hc7 (t := 39) rfl (zn4 rfl (zp1 rfl (qb (qc3 rfl rfl (zKER (zp1 rfl ?_))))))
    refine zp1 rfl (qb ?_)
    replace h := h.pick [1, 2] rfl
    exact qA m1 [(0, _), (5, _), (6, _), (22, _), (23, _), (24, _)] (Nat.lt_succ_self m1) ⟨rfl, rfl, rfl, rfl, rfl, rfl, trivial⟩ ⟨_, _, _, _, _, _, hF, rfl, h⟩
   replace hc6 := zb hc6
   replace hF := bifF hc6 hF
   refine qB hc6 (t := 34) rfl (zn3 rfl (zp2 rfl (zn4 rfl (zp1 rfl (qb ?_)))))
   refine qc3 rfl rfl (zKER (zp2 rfl (qb ?_)))
   replace h := h.pick [1, 2] rfl
   exact qA m1 [(0, _), (5, _), (6, _), (22, _), (23, _), (24, _)] (Nat.lt_succ_self m1) ⟨rfl, rfl, rfl, rfl, rfl, rfl, trivial⟩ ⟨_, _, _, _, _, _, hF, rfl, h⟩
  refine qI rfl ?_
  obtain rfl := qj hF; replace hF := hK1
  refine zSR (zp2 rfl (qb ?_))
  obtain rfl := qj hF
  exact qap qc (ρ := (List Int)) [GoT.v (List Int) [.slice p12 x1.length k11]] h ⟨rfl, trivial⟩ (PV.done h (qav (qaz 0 h rfl)))
 refine zKSSR (zp1 rfl (zl 0 0 h rfl (zp1 rfl (qb ?_))))
 refine qq rfl hF ?_ ?_ <;> intro hF
 ·refine zSR (zp1 rfl (qb ?_))
  obtain rfl := qj hF
  exact qap qc (ρ := (List Int)) [GoT.v (List Int) [.slice none 0 0]] h ⟨rfl, trivial⟩ (PV.done h (qav qmR))
 refine zKS ?_
 refine qeO [] (fun w' => SH w w' [Ch.box bb1 [.int .i64 y2.instance_, .int .i64 y2.pin, .int .i64 y2.net, .bool y2.drives] 97]) rfl 9 rfl #[ff, ff, ff, ff, ff, ff, ff, ff, ff] (by kernel_rfl) (fun w9 hb => ?_)
 replace h := h.ext hb
 clear hb
 refine qi 0 rfl #[tt, ff, ff, ff, ff, ff, ff, ff, ff] (by kernel_rfl) (by kernel_rfl) (fun w' hw => v_p qc rfl w') (h.pick [0] rfl) rfl ?_
 refine qi 1 rfl #[tt, tt, ff, ff, ff, ff, ff, ff, ff] (by kernel_rfl) (by kernel_rfl) (fun w' hw => v_p qc rfl w') (h.pick [0] rfl) rfl ?_
 refine qi 2 rfl #[tt, tt, tt, ff, ff, ff, ff, ff, ff] (by kernel_rfl) (by kernel_rfl) (fun w' hw => v_p qc rfl w') (h.pick [0] rfl) rfl ?_
 refine qi 3 rfl #[tt, tt, tt, tt, ff, ff, ff, ff, ff] (by kernel_rfl) (by kernel_rfl) (fun w' hw => qbj qc (hc1.below hw.below) (j := 0) rfl rfl rfl) (h.pick [0] rfl) rfl ?_
 refine qi 4 rfl #[tt, tt, tt, tt, tt, ff, ff, ff, ff] (by kernel_rfl) (by kernel_rfl) (fun w' hw => v_p qc rfl w') (h.pick [0] rfl) rfl ?_
 refine qi 5 rfl #[tt, tt, tt, tt, tt, tt, ff, ff, ff] (by kernel_rfl) (by kernel_rfl) (fun w' hw => qbj qc (hw.box 0 rfl) (j := 0) rfl rfl rfl) (h.pick [0] rfl) rfl ?_
 obtain ⟨r2, hr5, hF⟩ := qd hF
 refine qoy (fun e w' => ∃ (bb9 : Nat) (p33 : Option Addr) (k31 : Nat) (p34 : Option Addr) (k32 : Nat) (p35 : Option Addr) (k33 : Nat) (S10 : Nat → Prop), e = [(1, .int .i64 a_1), (5, .pointer (some ⟨bb1, 0, none⟩)), (9, .pointer (some ⟨bb9, 0, none⟩))] ∧ SH w w' [Ch.box bb9 [.string r2.Name, .int .i64 r2.Kind, .slice p33 r2.Pins.length k31, .slice p34 r2.Arcs.length k32, .slice p35 r2.Truth.length k33, .int .i64 r2.Leak, .int .i64 r2.Energy] 155, Ch.grp (old w) S10 [fct (r2 : qD) [.string r2.Name, .int .i64 r2.Kind, .slice p33 r2.Pins.length k31, .slice p34 r2.Arcs.length k32, .slice p35 r2.Truth.length k33, .int .i64 r2.Leak, .int .i64 r2.Energy]], Ch.box bb1 [.int .i64 y2.instance_, .int .i64 y2.pin, .int .i64 y2.net, .bool y2.drives] 97]) 0 #[tt, tt, tt, tt, tt, tt, tt, tt, tt] ?_ ?_
 ·intro K
  refine qqG 6 7 rfl rfl #[tt, tt, tt, tt, tt, tt, tt, ff, ff] #[tt, tt, tt, tt, tt, tt, ff, tt, ff] (by kernel_rfl) (by kernel_rfl) (by kernel_rfl) ?_ ?_
  ·have hg4 : Rg (old w) w (old w) w := .start (fun _ h => h)
   refine qla r2 hg4 h call102 (qhi (hg4.atB h) (qlG (⟨(⟨y1.Block.Library.Cells⟩ : qt), (⟨y1.Block.Design.Instances, y1.Block.Design.Nets, y1.Block.Design.Ports⟩ : qk), y1.Block.Wires⟩ : qy) (hg4.inBS h s2) (hg4.inBS h s3) (hg4.inBS h s4) (hg4.inBS h s5) (hg4.inBS h s6)) hr5) rfl rfl rfl rfl ?_
   intro w20 us4 S8 h hv4
   obtain ⟨cs8, rfl, hr12⟩ := qlA hv4
   have hr13 := hr12
   obtain ⟨p27, k25, p28, k26, p29, k27, rfl, s21, s22, s23⟩ := qV hr12
   replace h := h.grpAdd 0 rfl hr13
   refine qW (fun _ => (h.pick [1] rfl)) ?_
   refine qab 7 rfl #[tt, tt, tt, tt, tt, tt, tt, tt, ff] (by kernel_rfl) (by kernel_rfl) ?_
   refine qU qc h rfl rfl rfl ?_
   intro w21 bb7 h
   refine qW (fun _ => (h.pick [2] rfl)) ?_
   refine qab 8 rfl #[tt, tt, tt, tt, tt, tt, tt, tt, tt] (by kernel_rfl) (by kernel_rfl) ?_
   refine zs 0 h rfl ?_
   intro w22 h
   replace h : SH _ _ [Ch.box bb7 [.string r2.Name, .int .i64 r2.Kind, .slice p27 r2.Pins.length k25, .slice p28 r2.Arcs.length k26, .slice p29 r2.Truth.length k27, .int .i64 r2.Leak, .int .i64 r2.Energy] 155, Ch.grp (old w) S8 [fct (r2 : qD) [.string r2.Name, .int .i64 r2.Kind, .slice p27 r2.Pins.length k25, .slice p28 r2.Arcs.length k26, .slice p29 r2.Truth.length k27, .int .i64 r2.Leak, .int .i64 r2.Energy]], Ch.box bb1 [.int .i64 y2.instance_, .int .i64 y2.pin, .int .i64 y2.net, .bool y2.drives] 97] := h
   refine qW (fun _ => (h.pick [2] rfl)) ?_
   exact qoz [(1, _), (5, _), (9, _)] ⟨rfl, rfl, rfl, trivial⟩ (K _ _ ⟨_, _, _, _, _, _, _, _, rfl, h⟩)
  refine qU qc h rfl rfl rfl ?_
  intro w23 bb8 h
  refine qW (fun _ => (h.pick [1] rfl)) ?_
  refine qab 6 rfl #[tt, tt, tt, tt, tt, tt, tt, tt, ff] (by kernel_rfl) (by kernel_rfl) ?_
  have hg5 : Rg (old w) w (old w) w := .start (fun _ h => h)
  refine qla r2 hg5 h call102 (qhi (hg5.atB h) (qlG (⟨(⟨y1.Block.Library.Cells⟩ : qt), (⟨y1.Block.Design.Instances, y1.Block.Design.Nets, y1.Block.Design.Ports⟩ : qk), y1.Block.Wires⟩ : qy) (hg5.inBS h s2) (hg5.inBS h s3) (hg5.inBS h s4) (hg5.inBS h s5) (hg5.inBS h s6)) hr5) rfl rfl rfl rfl ?_
  intro w24 us5 S9 h hv5
  obtain ⟨cs9, rfl, hr14⟩ := qlA hv5
  have hr15 := hr14
  obtain ⟨p30, k28, p31, k29, p32, k30, rfl, s24, s25, s26⟩ := qV hr14
  replace h := h.grpAdd 0 rfl hr15
  refine qW (fun _ => (h.pick [2] rfl)) ?_
  refine qab 8 rfl #[tt, tt, tt, tt, tt, tt, tt, tt, tt] (by kernel_rfl) (by kernel_rfl) ?_
  refine zs 1 h rfl ?_
  intro w25 h
  refine qW (fun _ => (h.pick [2] rfl)) ?_
  replace h := h.pick [1, 0, 2] rfl
  exact qoz [(1, _), (5, _), (9, _)] ⟨rfl, rfl, rfl, trivial⟩ (K _ _ ⟨_, _, _, _, _, _, _, _, rfl, h⟩)
 rintro e3 w26 ⟨bb9, p33, k31, p34, k32, p35, k33, S10, rfl, h⟩
 refine qcp (by kernel_rfl) ?_
 refine zSSR (zp1 rfl (zl 0 3 h rfl (zp1 rfl ?_)))
 obtain ⟨r3, hr16, hF⟩ := qd hF
 refine ql r3 h call103 (qdB ⟨_, _, rfl, (qgR (h.grp 1 0 rfl rfl)).2.1.1⟩ (qhJ (x := y2) 2 h rfl (qgT y2)) hr16) rfl rfl rfl rfl ?_
 intro w27 h
 refine qb ?_
 refine qq rfl hF ?_ ?_ <;> intro hF
 ·refine qbn ?_
  refine qeO [] (fun w' => SH w w' [Ch.box bb9 [.string r2.Name, .int .i64 r2.Kind, .slice p33 r2.Pins.length k31, .slice p34 r2.Arcs.length k32, .slice p35 r2.Truth.length k33, .int .i64 r2.Leak, .int .i64 r2.Energy] 155, Ch.box bb1 [.int .i64 y2.instance_, .int .i64 y2.pin, .int .i64 y2.net, .bool y2.drives] 97]) rfl 9 rfl #[ff, ff, ff, ff, ff, ff, ff, ff, ff] (by kernel_rfl) (fun w28 hb => ?_)
  replace h := h.ext hb
  clear hb
  refine qi 0 rfl #[tt, ff, ff, ff, ff, ff, ff, ff, ff] (by kernel_rfl) (by kernel_rfl) (fun w' hw => v_p qc rfl w') (h.pick [0, 2] rfl) rfl ?_
  refine qi 1 rfl #[tt, tt, ff, ff, ff, ff, ff, ff, ff] (by kernel_rfl) (by kernel_rfl) (fun w' hw => v_p qc rfl w') (h.pick [0, 2] rfl) rfl ?_
  refine qi 2 rfl #[tt, tt, tt, ff, ff, ff, ff, ff, ff] (by kernel_rfl) (by kernel_rfl) (fun w' hw => qbj qc (hw.box 1 rfl) (j := 1) rfl rfl rfl) (h.pick [0, 2] rfl) rfl ?_
  refine qi 3 rfl #[tt, tt, tt, tt, ff, ff, ff, ff, ff] (by kernel_rfl) (by kernel_rfl) (fun w' hw => v_p qc rfl w') (h.pick [0, 2] rfl) rfl ?_
  refine qi 4 rfl #[tt, tt, tt, tt, tt, ff, ff, ff, ff] (by kernel_rfl) (by kernel_rfl) (fun w' hw => qbj qc (hw.box 0 rfl) (j := 0) rfl rfl rfl) (h.pick [0, 2] rfl) rfl ?_
  refine qab 5 rfl #[tt, tt, tt, tt, tt, tt, ff, ff, ff] (by kernel_rfl) (by kernel_rfl) ?_
  obtain ⟨r4, hr17, hF⟩ := qd hF
  refine qQ r4 h call106 (qev (h.grp 1 0 rfl rfl) hr17) rfl rfl rfl rfl ?_
  intro w29 h
  refine qW (fun _ => (h.pick [0, 2] rfl)) ?_
  refine qi 6 rfl #[tt, tt, tt, tt, tt, tt, tt, ff, ff] (by kernel_rfl) (by kernel_rfl) (fun w' hw => v_p qc rfl w') (h.pick [0, 2] rfl) rfl ?_
  refine qab 7 rfl #[tt, tt, tt, tt, tt, tt, tt, tt, ff] (by kernel_rfl) (by kernel_rfl) ?_
  refine qaP qc [.tmp 71] _ ([W64 ((W64 (a_1 - y2.pin)) + r4)] : List Int) h rfl rfl rfl rfl rfl rfl rfl rfl rfl ⟨rfl, trivial⟩ rfl ?_
  intro w30 p36 S11 h
  refine qW (fun _ => (h.pick [1, 3] rfl)) ?_
  refine qi 8 rfl #[tt, tt, tt, tt, tt, tt, tt, tt, tt] (by kernel_rfl) (by kernel_rfl) (fun w' hw => v_p qc rfl w') (h.pick [1, 3] rfl) rfl ?_
  refine qcp (by kernel_rfl) ?_
  replace h := h.pick [0, 1, 3] rfl
  obtain rfl := qj hF
  exact qap qc (ρ := (List Int)) [GoT.v (List Int) [.slice p36 1 1]] h ⟨rfl, trivial⟩ (PV.done h (qav (qaz 0 h rfl)))
 refine zKSR (zp1 rfl (qb ?_))
 replace h := h.pick [0, 2] rfl
 obtain rfl := qj hF
 exact qap qc (ρ := (List Int)) [GoT.v (List Int) [.slice none 0 0]] h ⟨rfl, trivial⟩ (PV.done h (qav qmR))

end Go.Fw


namespace Go.Fw
open Go
set_option maxRecDepth 100000

theorem qmx {d : qk} {k : Int} {n i : Nat} (hi : i < (sinksL d k n).length) : ∃ y : Nat, y < n ∧ idx (sinksL d k n) (i : Int) = some (y : Int) ∧ snkQ d k y = true := by
  rw [qg6 hi]
  have hm : (sinksL d k n)[i] ∈ sinksL d k n := List.getElem_mem hi
  generalize (sinksL d k n)[i] = z at hm
  unfold sinksL at hm
  obtain ⟨y, hy, rfl⟩ := List.mem_map.1 hm
  obtain ⟨h1, h2⟩ := List.mem_filter.1 hy
  exact ⟨y, List.mem_range.1 h1, rfl, h2⟩

theorem ql4 {d : qk} {k : Int} (h : smallD d) : Ev (fun n => qen n d k) (sinksL d k (places d).length) := by
  have hl := qb6 h
  have hL : Ev (fun n => qaE k (places d) n ([] : List Int) 0) (sinksL d k (places d).length, ((places d).length : Int)) := by
    refine loopF (Lf := qaE k (places d)) (S := fun j => sinksL d k j) (len := (places d).length) (fun n => ?_) (fun j hj X hX => ?_)
    · simp only [qaE, qw (Nat.le_refl _), cond_false]
    · have hc : (sinksL d k j).length + [(j : Int)].length ≤ 2147483648 := by
        rw [qeS]
        have : cntP (snkQ d k) j ≤ j := qea
        simp; omega
      simp only [qaE, qv hj, cond_true, qal hj, Option.bind_some, qr (show j < 9223372036854775807 by omega)]
      rw [qh7] at hX
      unfold snkQ at hX
      cases h1 : ((gt (places d) j).net == k)
      · rw [h1] at hX
        simp only [Bool.false_and, cond_false, List.append_nil] at hX ⊢
        exact hX
      · cases h2 : (gt (places d) j).drives
        · rw [h1, h2] at hX
          simp only [Bool.not_false, Bool.and_self, cond_true, qd0 hc, Option.bind_some] at hX ⊢
          exact hX
        · rw [h1, h2] at hX
          simp only [Bool.not_true, Bool.and_false, cond_false, List.append_nil, cond_true] at hX ⊢
          exact hX
  unfold qen
  exact Ev.bind (qjp h) (Ev.bind hL .done)

/-- What a valid block says of a wire. -/
structure wireOk (b : qy) (i : Nat) : Prop where
  lo : 1 ≤ (gt b.Wires i).Parent.length
  hi : (gt b.Wires i).Parent.length ≤ 8
  res : (gt b.Wires i).Res.length = (gt b.Wires i).Parent.length
  cap : (gt b.Wires i).Cap.length = (gt b.Wires i).Parent.length
  par : ∀ j, 0 < j → j < (gt b.Wires i).Parent.length → 0 ≤ at0 (gt b.Wires i).Parent j ∧ at0 (gt b.Wires i).Parent j < j
  snk : (gt b.Wires i).Sink.length = (sinksL b.Design (i : Int) (places b.Design).length).length
  sin : ∀ j, j < (gt b.Wires i).Sink.length → 0 ≤ at0 (gt b.Wires i).Sink j ∧ at0 (gt b.Wires i).Sink j < (gt b.Wires i).Parent.length
theorem qiY {b : qy} (h : blockB b = true) {i : Nat} (hi : i < b.Wires.length) : wireOk b i := by
  unfold blockB at h
  rw [Bool.and_eq_true, qaQ] at h
  have := h.2 i hi
  unfold wireB lenB at this
  simp only [Bool.and_eq_true, decide_eq_true_eq, beq_iff_eq] at this
  obtain ⟨⟨h1, h2⟩, h3, h4, h5, _, _, h6, h7⟩ := this
  refine ⟨h1, h2, by omega, by omega, fun j hj0 hj => ?_, ?_, fun j hj => ?_⟩
  · have := qaQ.1 h5 j hj
    unfold treeB at this
    rw [show decide (j = 0) = false by simp; omega] at this
    simp only [cond_false, qcP] at this
    omega
  · rw [qeS]
    unfold snkN at h6
    omega
  · rw [qfU (d := 0), qaQ] at h7
    have := h7 j hj
    rw [qcP] at this
    unfold at0
    omega
theorem qn2 {b : qy} (h : blockB b = true) : b.Wires.length = b.Design.Nets.length := by
  unfold blockB at h
  simp only [Bool.and_eq_true, beq_iff_eq] at h
  omega

theorem qpA {b : qy} (h : blockB b = true) {j : Nat} (hj : j < (places b.Design).length) : ∃ c, ∀ n, qec n b.Design b.Library (gt (places b.Design) j) = some c := by
  have hd := qbJ h
  rcases qgi hj with ⟨i, k, hi, hk, _, e⟩ | ⟨i, hi, _, e⟩
  · rw [e]
    obtain ⟨⟨c0, c1⟩, hn, _⟩ := qhC hd hi
    refine ⟨(gt (gt b.Library.Cells (gt b.Design.Instances i).Cell.toNat).Pins k).Cap, fun n => ?_⟩
    unfold place1
    simp only [qec, show decide ((i : Int) < 0) = false by simp, cond_false, qal hi, Option.bind_some, qft c0 c1, qal (show k < (gt b.Library.Cells (gt b.Design.Instances i).Cell.toNat).Pins.length by omega)]
  · rw [e]
    exact ⟨0, fun n => rfl⟩

theorem qke {b : qy} (h : blockB b = true) {i : Nat} (hi : i < b.Wires.length) : ∃ r : List Int, r.length = (gt b.Wires i).Parent.length ∧ Ev (fun n => qcs n b (i : Int)) r := by
  have hw := qiY h hi
  have hs := qaW (qbJ h)
  have hlo := hw.lo
  have hhi := hw.hi
  have hcap := hw.cap
  have hl := qb6 hs
  obtain ⟨x1, i1, e1⟩ := loopE (Lf := qa7 b (gt b.Wires i) (places b.Design) (sinksL b.Design (i : Int) (places b.Design).length)) (fin := fun t => (t, ((sinksL b.Design (i : Int) (places b.Design).length).length : Int))) (fun _ t => t.length = (gt b.Wires i).Parent.length) (len := (sinksL b.Design (i : Int) (places b.Design).length).length)
    (fun n t => by simp only [qa7, qw (Nat.le_refl _), cond_false])
    (fun j t hj ht => by
      obtain ⟨y, hy, ey, _⟩ := qmx hj
      obtain ⟨c, hc⟩ := qpA h hy
      have hjs : j < (gt b.Wires i).Sink.length := by rw [hw.snk]; exact hj
      have hsn := hw.sin j hjs
      have hb : j < 9223372036854775807 := by
        rw [qeS] at hj
        have : cntP (snkQ b.Design (i : Int)) (places b.Design).length ≤ (places b.Design).length := qea
        omega
      refine ⟨setS t (at0 (gt b.Wires i).Sink j) (W64 (gt t (at0 (gt b.Wires i).Sink j).toNat + c)), by rw [qiZ]; exact ht, fun X hX => ?_⟩
      simp only [qa7, qv hj, cond_true, ey, Option.bind_some, qbm hjs, qft hsn.1 (show at0 (gt b.Wires i).Sink j < (t.length : Int) by omega), qal hy, qr hb]
      exact Ev.bind ⟨0, fun n _ => hc n⟩ hX) 0 (Nat.zero_le _) (gt b.Wires i).Cap hcap
  obtain ⟨x2, i2, e2⟩ := loopDn (Lf := qa9 (gt b.Wires i)) (fin := fun t => (t, (0 : Int))) (fun t => t.length = (gt b.Wires i).Parent.length) ((gt b.Wires i).Parent.length - 1)
    (fun n t => by simp only [qa9, show decide ((0 : Int) > 0) = false from rfl, cond_false])
    (fun j t h0 hj ht => by
      have hp := hw.par j h0 (by omega)
      refine ⟨setS t (at0 (gt b.Wires i).Parent j) (W64 (gt t (at0 (gt b.Wires i).Parent j).toNat + gt t j)), by rw [qiZ]; exact ht, fun X hX => ?_⟩
      simp only [qa9, show decide ((j : Int) > 0) = true by simp; omega, cond_true, qbm (show j < (gt b.Wires i).Parent.length by omega), Option.bind_some, qft hp.1 (show at0 (gt b.Wires i).Parent j < (t.length : Int) by omega), qal (show j < t.length by omega), show (j : Int) - 1 = ((j - 1 : Nat) : Int) by omega, qez (show -9223372036854775808 ≤ ((j - 1 : Nat) : Int) by omega) (by omega)]
      exact hX) x1 i1
  refine ⟨x2, i2, ?_⟩
  unfold qcs qf8
  rw [qal hi]
  simp only [Option.bind_some, qd0 (show ([] : List Int).length + (gt b.Wires i).Cap.length ≤ 2147483648 by simp; omega), List.nil_append]
  refine Ev.bind (qjp hs) (Ev.bind (ql4 hs) (Ev.bind e1 ?_))
  rw [qbK (show (gt b.Wires i).Cap.length ≤ 9223372036854775807 by omega), show ((gt b.Wires i).Cap.length : Int) - 1 = (((gt b.Wires i).Parent.length - 1 : Nat) : Int) by omega]
  exact Ev.bind e2 .done

theorem qlQ {b : qy} (h : blockB b = true) {i : Nat} (hi : i < b.Wires.length) : ∃ r : List Int, r.length = (gt b.Wires i).Sink.length ∧ Ev (fun n => qcM n b (i : Int)) r := by
  have hw := qiY h hi
  have hs := qaW (qbJ h)
  have hlo := hw.lo
  have hhi := hw.hi
  have hres := hw.res
  have hl := qb6 hs
  have hsl : (gt b.Wires i).Sink.length ≤ 78 := by
    rw [hw.snk, qeS]
    have : cntP (snkQ b.Design (i : Int)) (places b.Design).length ≤ (places b.Design).length := qea
    omega
  obtain ⟨r1, l1, e1⟩ := qke h hi
  have hmk : mkS (r1.length : Int) (0 : Int) = some (List.replicate r1.length 0) := qg9 (by omega)
  obtain ⟨x2, i2, e2⟩ := loopE (Lf := qaV (gt b.Wires i) r1 (List.replicate r1.length 0)) (fin := fun t => (t, (r1.length : Int))) (fun j t => 1 ≤ j ∧ t.length = (gt b.Wires i).Parent.length) (len := r1.length)
    (fun n t => by simp only [qaV, List.length_replicate, qw (Nat.le_refl _), cond_false])
    (fun j t hj ht => by
      obtain ⟨h1, ht⟩ := ht
      have hp := hw.par j (by omega) (by omega)
      refine ⟨setS t (j : Int) (W64 (gt t (at0 (gt b.Wires i).Parent j).toNat + W64 (at0 (gt b.Wires i).Res j * gt r1 j))), ⟨by omega, by rw [qiZ]; exact ht⟩, fun X hX => ?_⟩
      simp only [qaV, List.length_replicate, qv hj, cond_true, qbm (show j < (gt b.Wires i).Parent.length by omega), Option.bind_some, qft hp.1 (show at0 (gt b.Wires i).Parent j < (t.length : Int) by omega), qbm (show j < (gt b.Wires i).Res.length by omega), qal hj, qal (show j < t.length by omega), qr (show j < 9223372036854775807 by omega)]
      exact hX) 1 (by omega) (List.replicate r1.length 0) ⟨Nat.le_refl _, by rw [List.length_replicate]; exact l1⟩
  obtain ⟨x3, i3, e3⟩ := loopE (Lf := qaL x2 (gt b.Wires i)) (fin := fun t => (t, ((gt b.Wires i).Sink.length : Int))) (fun j t => t.length = j) (len := (gt b.Wires i).Sink.length)
    (fun n t => by simp only [qaL, qw (Nat.le_refl _), cond_false])
    (fun j t hj ht => by
      have hsn := hw.sin j hj
      have hx2 := i2.2
      refine ⟨t ++ [gt x2 (at0 (gt b.Wires i).Sink j).toNat], by simp [ht], fun X hX => ?_⟩
      simp only [qaL, qv hj, cond_true, qbm hj, Option.bind_some, qft hsn.1 (show at0 (gt b.Wires i).Sink j < (x2.length : Int) by omega), qd0 (show t.length + [gt x2 (at0 (gt b.Wires i).Sink j).toNat].length ≤ 2147483648 by simp; omega), qr (show j < 9223372036854775807 by omega)]
      exact hX) 0 (Nat.zero_le _) [] rfl
  refine ⟨x3, i3, ?_⟩
  unfold qcM qd2
  rw [qal hi]
  simp only [Option.bind_some]
  refine Ev.bind (b := x2) (Ev.bind e1 ?_) (Ev.bind e3 .done)
  rw [hmk]
  simp only [Option.bind_some]
  exact Ev.bind e2 .done
end Go.Fw


namespace Go.Fw
open Go
set_option maxRecDepth 100000

instance : Inhabited qbh := ⟨⟨0, 0, 0, 0⟩⟩
instance : Inhabited qR := ⟨⟨0, 0⟩⟩

theorem qov {α : Type} {m : Nat} {z : α} (h : m ≤ 2147483648) : mkS (m : Int) z = some (List.replicate m z) := by
  unfold mkS big
  rw [if_pos ⟨by omega, by omega⟩, Int.toNat_natCast]
theorem qoH {α : Type} [Inhabited α] {xs : List α} {a k : Nat} {y : α} (h : k ≠ a) : gt (xs.set a y) k = gt xs k := by
  unfold gt
  rw [List.getD_eq_getElem?_getD, List.getElem?_set_ne (by omega), ← List.getD_eq_getElem?_getD]
theorem qm9 {α : Type} [Inhabited α] {xs : List α} {a : Nat} {y : α} (h : a < xs.length) : gt (xs.set a y) a = y := by
  rw [qiv (by rw [List.length_set]; exact h), List.getElem_set_self]
theorem qpW {a : qac} : ∃ r : List qR, r.length ≤ 4 ∧ ∀ n, qdt n a = some r := by
  unfold qdt
  simp only [bne, qby]
  cases (a.Kind == 2)
  · cases (a.Kind == 3)
    · cases (a.Kind == 1)
      · exact ⟨_, by decide, fun _ => rfl⟩
      · cases (a.Sense == 1)
        · cases (a.Sense == 2)
          · exact ⟨[⟨0, 0⟩, ⟨0, 1⟩, ⟨1, 0⟩, ⟨1, 1⟩], by decide, fun _ => rfl⟩
          · exact ⟨[⟨0, 1⟩, ⟨1, 0⟩], by decide, fun _ => rfl⟩
        · exact ⟨[⟨0, 0⟩, ⟨1, 1⟩], by decide, fun _ => rfl⟩
    · exact ⟨[⟨1, 0⟩, ⟨1, 1⟩], by decide, fun _ => rfl⟩
  · exact ⟨[⟨0, 0⟩, ⟨0, 1⟩], by decide, fun _ => rfl⟩

theorem qmX {b : qy} {first : Int} (h : blockB b = true) {i : Nat} (hi : i < b.Design.Instances.length) : ∃ r : List qbh, r.length ≤ 32 ∧ Ev (fun n => qdn n b (gt b.Design.Instances i) first) r := by
  obtain ⟨⟨c0, c1⟩, _, hcb⟩ := qhC (qbJ h) hi
  have ha := qjJ hcb
  obtain ⟨x1, i1, e1⟩ := loopE (Lf := qa5 first (gt b.Library.Cells (gt b.Design.Instances i).Cell.toNat)) (fin := fun t => (t, ((gt b.Library.Cells (gt b.Design.Instances i).Cell.toNat).Arcs.length : Int))) (fun j t => t.length ≤ 4 * j) (len := (gt b.Library.Cells (gt b.Design.Instances i).Cell.toNat).Arcs.length)
    (fun n t => by simp only [qa5, qw (Nat.le_refl _), cond_false])
    (fun j t hj ht => by
      obtain ⟨r, hr, er⟩ := qpW (a := gt (gt b.Library.Cells (gt b.Design.Instances i).Cell.toNat).Arcs j)
      obtain ⟨x2, i2, e2⟩ := loopE (Lf := qa8 first (j : Int) (gt (gt b.Library.Cells (gt b.Design.Instances i).Cell.toNat).Arcs j) r) (fin := fun t => (t, (r.length : Int))) (fun k t' => t'.length = t.length + k) (len := r.length)
        (fun n t => by simp only [qa8, qw (Nat.le_refl _), cond_false])
        (fun k t' hk ht' => ⟨t' ++ [_], by rw [List.length_append, ht', List.length_singleton]; omega, fun X hX => by
          simp only [qa8, qv hk, cond_true, qal hk, Option.bind_some, qr (show k < 9223372036854775807 by omega)]
          rw [qd0 (by rw [List.length_singleton]; omega)]
          exact hX⟩) 0 (Nat.zero_le _) t rfl
      refine ⟨x2, by omega, fun X hX => ?_⟩
      simp only [qa5, qv hj, cond_true, qal hj, Option.bind_some, er, qr (show j < 9223372036854775807 by omega)]
      exact Ev.bind e2 hX) 0 (Nat.zero_le _) [] (Nat.le_refl _)
  refine ⟨x1, by omega, ?_⟩
  unfold qdn
  rw [qft c0 c1]
  simp only [Option.bind_some]
  exact Ev.bind e1 .done

theorem qnR {b : qy} (h : blockB b = true) : ∃ ls lo de, Ev (fun n => qgO n b) (some ⟨b, places b.Design, ls, lo, de, []⟩) := by
  have hd := qbJ h
  have hs := qaW hd
  have hl := qb6 hs
  have hni := hs.ni
  have hnn := hs.nn
  have hwl := qn2 h
  obtain ⟨⟨x1, z1⟩, i1, e1⟩ := loopE (τ := List qbh × Int) (Lf := fun n t j => qcZ b n t.1 t.2 j) (fin := fun t => (t.1, t.2, (b.Design.Instances.length : Int))) (fun j t => t.1.length ≤ 32 * j) (len := b.Design.Instances.length)
    (fun n t => by simp only [qcZ, qw (Nat.le_refl _), cond_false])
    (fun j t hj ht => by
      obtain ⟨r, hr, er⟩ := qmX (first := t.2) h hj
      refine ⟨(t.1 ++ r, W64 (t.2 + ((gt b.Design.Instances j).Nets.length : Int))), by rw [List.length_append]; omega, fun X hX => ?_⟩
      simp only [qcZ, qv hj, cond_true, qal hj, Option.bind_some, qah, qr (show j < 9223372036854775807 by omega)]
      have ht' : t.1.length ≤ 32 * j := ht
      refine Ev.bind er ?_
      rw [qd0 (show t.1.length + r.length ≤ 2147483648 by omega)]
      exact hX) 0 (Nat.zero_le _) ([], 0) (Nat.le_refl _)
  have hm1 : mkS (b.Wires.length : Int) (0 : Int) = some (List.replicate b.Wires.length 0) := qov (by omega)
  have hm2 : mkS (b.Wires.length : Int) ([] : List Int) = some (List.replicate b.Wires.length []) := qov (by omega)
  obtain ⟨⟨x5, x6⟩, ⟨i5, i6, i56⟩, e2⟩ := loopE (τ := List (List Int) × List Int) (Lf := fun n t j => qbV (places b.Design) n t.1 t.2 j) (fin := fun t => (t.1, t.2, ((places b.Design).length : Int))) (fun j t => t.1.length = b.Wires.length ∧ t.2.length = b.Wires.length ∧ ∀ k, (gt t.1 k).length ≤ j) (len := (places b.Design).length)
    (fun n t => by simp only [qbV, qw (Nat.le_refl _), cond_false])
    (fun j t hj ht => by
      obtain ⟨h1, h2, h3⟩ := ht
      obtain ⟨n0, n1⟩ := qiL hd hj
      cases hdr : (gt (places b.Design) j).drives
      · refine ⟨(setS t.1 (gt (places b.Design) j).net (gt t.1 (gt (places b.Design) j).net.toNat ++ [(j : Int)]), t.2), ⟨by rw [qiZ]; exact h1, h2, fun k => ?_⟩, fun X hX => ?_⟩
        · show (gt (t.1.set _ _) k).length ≤ j + 1
          by_cases hk : k = (gt (places b.Design) j).net.toNat
          · subst hk
            rw [qm9 (by omega), List.length_append, List.length_singleton]
            have := h3 (gt (places b.Design) j).net.toNat
            omega
          · rw [qoH hk]
            have := h3 k
            omega
        · have := h3 (gt (places b.Design) j).net.toNat
          simp only [qbV, qv hj, cond_true, qal hj, Option.bind_some, hdr, cond_false, qft n0 (show (gt (places b.Design) j).net < (t.1.length : Int) by omega), qr (show j < 9223372036854775807 by omega)]
          rw [qd0 (by rw [List.length_singleton]; omega)]
          exact hX
      · refine ⟨(t.1, setS t.2 (gt (places b.Design) j).net (j : Int)), ⟨h1, by rw [qiZ]; exact h2, fun k => Nat.le_succ_of_le (h3 k)⟩, fun X hX => ?_⟩
        simp only [qbV, qv hj, cond_true, qal hj, Option.bind_some, hdr, qft n0 (show (gt (places b.Design) j).net < (t.2.length : Int) by omega), qr (show j < 9223372036854775807 by omega)]
        exact hX) 0 (Nat.zero_le _) (List.replicate b.Wires.length [], List.replicate b.Wires.length 0) ⟨by simp, by simp, fun k => by
      have : gt (List.replicate b.Wires.length ([] : List Int)) k = [] := by
        unfold gt
        rw [List.getD_eq_getElem?_getD, List.getElem?_replicate]
        by_cases hk : k < b.Wires.length <;> simp [hk] <;> rfl
      rw [this]; exact Nat.le_refl _⟩
  have i5 : x5.length = b.Wires.length := i5
  have i6 : x6.length = b.Wires.length := i6
  have i56 : ∀ k, (gt x5 k).length ≤ (places b.Design).length := i56
  have hL5 : ∀ (i4 i5 y7 : Int) (y8 : Int) (t : List qbh), idx x6 i4 = some y8 → t.length ≤ 1000000 → ∃ t', t'.length = t.length + 2 ∧ Ev (fun n => qcn x6 i4 i5 y7 n t 0) (t', 2) := by
    intro i4 i5 y7 y8 t hy ht
    obtain ⟨t', h1, h2⟩ := loopE (Lf := qcn x6 i4 i5 y7) (fin := fun t => (t, (2 : Int))) (fun k t' => t'.length = t.length + k) (len := 2)
      (fun n t => by simp only [qcn]; rfl)
      (fun k t' hk ht' => ⟨t' ++ [_], by rw [List.length_append, ht', List.length_singleton]; omega, fun X hX => by
        simp only [qcn, show decide ((k : Int) < 2) = true by simp; omega, cond_true, hy, Option.bind_some, qr (show k < 9223372036854775807 by omega)]
        rw [qd0 (by rw [List.length_singleton]; omega)]
        exact hX⟩) 0 (Nat.zero_le _) t rfl
    exact ⟨t', h1, h2⟩
  have hL4 : ∀ (i4 y8 : Int) (y6 : List Int) (t : List qbh), idx x6 i4 = some y8 → y6.length ≤ 78 → t.length ≤ 900000 → ∃ t', t'.length = t.length + 2 * y6.length ∧ Ev (fun n => qcm x6 i4 y6 n t 0) (t', (y6.length : Int)) := by
    intro i4 y8 y6 t hy hy6 ht
    obtain ⟨t', h1, h2⟩ := loopE (Lf := qcm x6 i4 y6) (fin := fun t => (t, (y6.length : Int))) (fun k t' => t'.length = t.length + 2 * k) (len := y6.length)
      (fun n t => by simp only [qcm, qw (Nat.le_refl _), cond_false])
      (fun k t' hk ht' => by
        obtain ⟨t2, q1, q2⟩ := hL5 i4 (k : Int) (gt y6 k) y8 t' hy (by omega)
        refine ⟨t2, by omega, fun X hX => ?_⟩
        simp only [qcm, qv hk, cond_true, qal hk, Option.bind_some, qr (show k < 9223372036854775807 by omega)]
        exact Ev.bind q2 hX) 0 (Nat.zero_le _) t rfl
    exact ⟨t', h1, h2⟩
  obtain ⟨⟨x8, x9, x10⟩, _, e3⟩ := loopE (τ := List (List Int) × List Int × List qbh) (Lf := fun n t j => qcW b x5 x6 n t.1 t.2.1 t.2.2 j) (fin := fun t => (t.1, t.2.1, t.2.2, (b.Wires.length : Int))) (fun j t => t.1.length = j ∧ t.2.1.length = j ∧ t.2.2.length ≤ 448 + 156 * j) (len := b.Wires.length)
    (fun n t => by simp only [qcW, qw (Nat.le_refl _), cond_false])
    (fun j t hj ht => by
      obtain ⟨h1, h2, h3⟩ := ht
      have h1 : t.1.length = j := h1
      have h2 : t.2.1.length = j := h2
      have h3 : t.2.2.length ≤ 448 + 156 * j := h3
      have hw := qiY h hj
      have hlo := hw.lo
      obtain ⟨r4, l4, e4⟩ := qke h hj
      obtain ⟨r5, l5, e5⟩ := qlQ h hj
      have h6 := i56 j
      have hy8 : idx x6 (j : Int) = some (gt x6 j) := qal (by omega)
      obtain ⟨t', q1, q2⟩ := hL4 (j : Int) (gt x6 j) (gt x5 j) t.2.2 hy8 (by omega) (by omega)
      refine ⟨(t.1 ++ [r5], t.2.1 ++ [gt r4 0], t'), ⟨by simp [h1], by simp [h2], ?_⟩, fun X hX => ?_⟩
      · show t'.length ≤ _
        omega
      · simp only [qcW, qv hj, cond_true, qr (show j < 9223372036854775807 by omega)]
        refine Ev.bind e4 ?_
        rw [show idx r4 (0 : Int) = some (gt r4 0) from qal (j := 0) (by omega)]
        simp only [Option.bind_some]
        rw [qd0 (by rw [List.length_singleton]; omega)]
        simp only [Option.bind_some]
        refine Ev.bind e5 ?_
        rw [qd0 (by rw [List.length_singleton]; omega), qal (show j < x5.length by omega)]
        simp only [Option.bind_some]
        exact Ev.bind q2 hX) 0 (Nat.zero_le _) ([], [], x1) ⟨rfl, rfl, by show x1.length ≤ _; have : x1.length ≤ 32 * b.Design.Instances.length := i1; omega⟩
  refine ⟨x10, x9, x8, ?_⟩
  unfold qgO
  refine Ev.bind (qjp hs) (Ev.bind e1 ?_)
  rw [hm1, hm2]
  simp only [Option.bind_some]
  exact Ev.bind e2 (Ev.bind e3 .done)
end Go.Fw


namespace Go.Fw
open Go
set_option maxRecDepth 100000

def clkB (b : qy) (p : Tplace) : Bool := bif decide (p.instance_ ≥ 0) then clkAt (cellAt b p.instance_).Pins p.pin else false

theorem qlX {b : qy} {V : Tview} {n j : Nat} (h : blockB b = true) (hV : V.Block = b) (hj : j < (places b.Design).length) : qdg n (some V) (gt (places b.Design) j) = some (clkB b (gt (places b.Design) j)) := by
  rcases qgi hj with ⟨i, k, hi, hk, _, e⟩ | ⟨i, hi, _, e⟩
  · obtain ⟨⟨c0, c1⟩, hn, _⟩ := qhC (qbJ h) hi
    rw [e]
    unfold place1 clkB clkAt cellAt
    simp only [qdg, show decide ((i : Int) ≥ 0) = true by simp, cond_true, Option.bind_some, hV, qal hi, qft c0 c1, qal (show k < (gt b.Library.Cells (gt b.Design.Instances i).Cell.toNat).Pins.length by omega), Int.toNat_natCast]
  · rw [e]; rfl

theorem qlO {b : qy} {j : Nat} (hok : qfx b) (h : blockB b = true) (hj : j < (places b.Design).length) : Ev (fun n => qf7 n b.Library b.Design (j : Int)) (toSp (gt (places b.Design) j), true) := by
  have hd := qbJ h
  have hs := qaW hd
  have hl := qb6 hs
  unfold qf7
  refine Ev.bind (qka hok.Library hok.Design) (Ev.ff (by rw [hd]; rfl) (Ev.bind (qgU hs) ?_))
  simp only [qdO, Option.bind_some, List.length_map, qbK (show (places b.Design).length ≤ 9223372036854775807 by omega)]
  rw [show inI (j : Int) 0 (((places b.Design).length : Int) - 1) = true from qcP.2 ⟨by omega, by omega⟩]
  simp only [Bool.not_true, cond_false]
  rw [qal (show j < ((places b.Design).map toSp).length by simpa using hj), qkp hj]
  exact .done

theorem qny {b : qy} {j : Nat} (hok : qfx b) (h : blockB b = true) (hj : j < (places b.Design).length) : Ev (fun n => qfW n b (j : Int)) (clkB b (gt (places b.Design) j)) := by
  unfold qfW
  refine Ev.bind (qlO hok h hj) ?_
  rcases qgi hj with ⟨i, k, hi, hk, _, e⟩ | ⟨i, hi, _, e⟩
  · obtain ⟨⟨c0, c1⟩, hn, _⟩ := qhC (qbJ h) hi
    rw [e]
    unfold place1 clkB clkAt cellAt toSp
    simp only [qe1, show decide ((i : Int) ≥ 0) = true by simp, cond_true, Option.bind_some, qal hi, qft c0 c1, qal (show k < (gt b.Library.Cells (gt b.Design.Instances i).Cell.toNat).Pins.length by omega), Int.toNat_natCast]
    exact .done
  · rw [e]; exact .done

theorem ql9 {b : qy} {j : Nat} (hok : qfx b) (h : blockB b = true) (hj : j < (places b.Design).length) : Ev (fun n => qe9 n b.Library b.Design (j : Int)) (gt (places b.Design) j).net := by
  unfold qe9
  exact Ev.bind (qlO hok h hj) .done

theorem qm3 {b : qy} {k : Int} (h : blockB b = true) {j : Nat} (hj : j < (places b.Design).length) (hk : (gt (places b.Design) j).net = k) (hdr : (gt (places b.Design) j).drives = true) : Ev (fun n => qfy n b.Design k) (j : Int) := by
  have hd := qbJ h
  have hs := qaW hd
  have hl := qb6 hs
  have e : ixL (fun q : Tl05Place => (q.net == k) && q.drives) ((places b.Design).map toSp) = (j : Int) := by
    refine qpI (by simpa using hj) ?_ (fun i hi hq => ?_)
    · rw [qkp hj]
      show (((gt (places b.Design) j).net == k) && (gt (places b.Design) j).drives) = true
      rw [hk, hdr]; simp
    · have hi' : i < (places b.Design).length := by simpa using hi
      rw [qkp hi'] at hq
      have hq' : (((gt (places b.Design) i).net == k) && (gt (places b.Design) i).drives) = true := hq
      simp only [Bool.and_eq_true, beq_iff_eq] at hq'
      exact qnb hd hi' hj (by rw [hq'.1, hk]) hq'.2 hdr
  unfold qfy
  refine Ev.bind (qgU hs) ?_
  rw [← e]
  exact qeI (fin := (((places b.Design).map toSp).length : Int)) (Lf := qbM k ((places b.Design).map toSp)) (pf := fun _ q => some ((q.net == k) && q.drives)) (fun _ _ => .done)
    (fun n => by simp only [qbM, qw (Nat.le_refl _), cond_false])
    (fun n j x hx => by
      have hj := (List.getElem?_eq_some_iff.1 hx).1
      have hj' : j < (places b.Design).length := by simpa using hj
      simp only [qbM, qv hj, cond_true, qaS hx, Option.bind_some, qr (show j < 9223372036854775807 by omega)]
      cases (x.net == k) <;> cases x.drives <;> rfl)
    (fun n => by congr 1; funext o; cases o <;> rfl)

theorem qok {b : qy} {i k : Nat} (h : blockB b = true) (hi : i < b.Design.Instances.length) (hk : k < (gt b.Design.Instances i).Nets.length) : Ev (fun n => qfE n b.Design (i : Int) (k : Int)) ((off b.Design i + k : Nat) : Int) := by
  have hd := qbJ h
  have hs := qaW hd
  have hl := qb6 hs
  obtain ⟨hj, ej⟩ := qjo hi hk
  have e : ixL (fun q : Tl05Place => (q.instance_ == (i : Int)) && (q.pin == (k : Int))) ((places b.Design).map toSp) = ((off b.Design i + k : Nat) : Int) := by
    refine qpI (by simpa using hj) ?_ (fun m hm hq => ?_)
    · rw [qkp hj, ej]
      unfold place1 toSp
      simp
    · have hm' : m < (places b.Design).length := by simpa using hm
      rw [qkp hm'] at hq
      rcases qgi hm' with ⟨i', k', hi', hk', em, e'⟩ | ⟨i', hi', em, e'⟩
      · rw [e'] at hq
        unfold place1 toSp at hq
        simp only [Bool.and_eq_true, beq_iff_eq] at hq
        obtain rfl : i' = i := by omega
        obtain rfl : k' = k := by omega
        exact em
      · rw [e'] at hq
        unfold place2 toSp at hq
        simp only [Bool.and_eq_true, beq_iff_eq] at hq
        omega
  unfold qfE
  refine Ev.bind (qgU hs) ?_
  rw [← e]
  exact qeI (fin := (((places b.Design).map toSp).length : Int)) (Lf := qck (i : Int) (k : Int) ((places b.Design).map toSp)) (pf := fun _ q => some ((q.instance_ == (i : Int)) && (q.pin == (k : Int)))) (fun _ _ => .done)
    (fun n => by simp only [qck, qw (Nat.le_refl _), cond_false])
    (fun n j x hx => by
      have hj := (List.getElem?_eq_some_iff.1 hx).1
      have hj' : j < (places b.Design).length := by simpa using hj
      simp only [qck, qv hj, cond_true, qaS hx, Option.bind_some, qr (show j < 9223372036854775807 by omega)]
      cases (x.instance_ == (i : Int)) <;> cases (x.pin == (k : Int)) <;> rfl)
    (fun n => by congr 1; funext o; cases o <;> rfl)

/-! ### Successors -/

def freeB (b : qy) (y : Int) : Bool := !clkB b (gt (places b.Design) y.toNat)
def dataB (c : qD) (pin : Int) : Bool := c.Arcs.any fun a => (a.From == pin) && decide (a.Kind ≤ 3)
def succL (b : qy) (j : Nat) : List Int :=
  bif (gt (places b.Design) j).drives then (sinksL b.Design (gt (places b.Design) j).net (places b.Design).length).filter (freeB b)
  else bif decide ((gt (places b.Design) j).instance_ < 0) then []
  else bif dataB (cellAt b (gt (places b.Design) j).instance_) (gt (places b.Design) j).pin then [(j : Int) - (gt (places b.Design) j).pin + (((cellAt b (gt (places b.Design) j).instance_).Pins.length : Int) - 1)] else []

theorem qn1 {c : qD} {p : Tplace} (hc : cellB c = true) : Ev (fun n => qY n c.Arcs p) (dataB c p.pin) := by
  have ha := qjJ hc
  unfold qY
  refine Ev.bind (b := ixL (fun a : qac => (a.From == p.pin) && decide (a.Kind ≤ 3)) c.Arcs) (qeI (fin := (c.Arcs.length : Int)) (Lf := qG c.Arcs p) (pf := fun n x => qcE n x p) (fun x hx => ?_)
    (fun n => by simp only [qG, qw (Nat.le_refl _), cond_false])
    (fun n j x hx => by
      have hj := (List.getElem?_eq_some_iff.1 hx).1
      simp only [qG, qv hj, cond_true, qaS hx, Option.bind_some, qr (show j < 9223372036854775807 by omega)])
    (fun n => by unfold qau; congr 1; funext o; cases o <;> rfl)) (Ev.now (by rw [qid]; rfl))
  obtain ⟨j, hj, rfl⟩ := List.getElem_of_mem hx
  have hk := (qnD hc hj).1
  rw [qiv hj] at hk
  refine ⟨0, fun n _ => ?_⟩
  have e : decide (c.Arcs[j].Kind ≤ 3) = ((c.Arcs[j].Kind == 1) || ((c.Arcs[j].Kind == 2) || (c.Arcs[j].Kind == 3))) := by
    rw [Bool.eq_iff_iff]; simp; omega
  rw [e]
  unfold qcE qgx
  cases (c.Arcs[j].Kind == 1) <;> cases (c.Arcs[j].Kind == 2) <;> cases (c.Arcs[j].Kind == 3) <;> simp

theorem qlU {b : qy} {V : Tview} {j : Nat} (h : blockB b = true) (hV : V.Block = b) (hP : V.places = places b.Design) (hj : j < (places b.Design).length) : Ev (fun n => qdo n (some V) (j : Int)) (succL b j) := by
  have hd := qbJ h
  have hs := qaW hd
  have hl := qb6 hs
  unfold qdo succL
  simp only [Option.bind_some, hP, qal hj]
  refine Ev.iff (fun _ => ?_) (fun _ => Ev.iff (fun _ => .done) (fun h0 => ?_))
  · have hL : Ev (fun n => qag (some V) V (gt (places b.Design) j) n ([] : List Int) 0) ((sinksL b.Design (gt (places b.Design) j).net (places b.Design).length).filter (freeB b), ((places b.Design).length : Int)) := by
      refine loopF (Lf := qag (some V) V (gt (places b.Design) j)) (S := fun m => (sinksL b.Design (gt (places b.Design) j).net m).filter (freeB b)) (len := (places b.Design).length) (fun n => ?_) (fun m hm X hX => ?_)
      · simp only [qag, hP, qw (Nat.le_refl _), cond_false]
      · have hc : ((sinksL b.Design (gt (places b.Design) j).net m).filter (freeB b)).length + [(m : Int)].length ≤ 2147483648 := by
          have h1 := List.length_filter_le (freeB b) (sinksL b.Design (gt (places b.Design) j).net m)
          rw [qeS] at h1
          have : cntP (snkQ b.Design (gt (places b.Design) j).net) m ≤ m := qea
          rw [List.length_singleton]; omega
        simp only [qag, hP, qv hm, cond_true, qal hm, Option.bind_some, qlX h hV hm, qr (show m < 9223372036854775807 by omega)]
        rw [qh7] at hX
        unfold snkQ at hX
        cases h1 : ((gt (places b.Design) m).net == (gt (places b.Design) j).net)
        · rw [h1] at hX
          simp only [Bool.false_and, cond_false, List.append_nil] at hX ⊢
          exact hX
        · cases h2 : (gt (places b.Design) m).drives
          · rw [h1, h2] at hX
            simp only [Bool.not_false, Bool.and_self, cond_true, List.filter_append] at hX ⊢
            have hf : freeB b (m : Int) = !clkB b (gt (places b.Design) m) := by unfold freeB; rw [Int.toNat_natCast]
            cases h3 : clkB b (gt (places b.Design) m)
            · rw [h3] at hf
              rw [List.filter_cons_of_pos (by rw [hf]; rfl), List.filter_nil] at hX
              simp only [Bool.not_false, cond_true, qd0 hc, Option.bind_some]
              exact hX
            · rw [h3] at hf
              rw [List.filter_cons_of_neg (by rw [hf]; decide), List.filter_nil, List.append_nil] at hX
              exact hX
          · rw [h1, h2] at hX
            simp only [Bool.not_true, Bool.and_false, cond_false, List.append_nil, cond_true] at hX ⊢
            exact hX
    exact Ev.bind hL .done
  · rcases qgi hj with ⟨i, k, hi, hk, ej, e⟩ | ⟨i, hi, _, e⟩
    · obtain ⟨⟨c0, c1⟩, hn, hcb⟩ := qhC hd hi
      have hxs := hs.nx i hi
      rw [e]
      have ec : cellAt b (place1 b.Design i k).instance_ = gt b.Library.Cells (gt b.Design.Instances i).Cell.toNat := by
        unfold cellAt place1; rw [Int.toNat_natCast]
      rw [ec]
      have e1 : ∀ n, qei n V.Block (place1 b.Design i k).instance_ = some (gt b.Library.Cells (gt b.Design.Instances i).Cell.toNat) := by
        intro n
        rw [hV]
        unfold place1
        simp only [qei, qal hi, qft c0 c1, Option.bind_some]
      refine Ev.bind ⟨0, fun n _ => e1 n⟩ (Ev.bind (qn1 hcb) (Ev.iff (fun _ => ?_) (fun _ => .done)))
      simp only [qb4, qbw, Option.bind_some]
      refine Ev.now ?_
      have ep : (place1 b.Design i k).pin = (k : Int) := rfl
      rw [ep, qbK (by omega), qez (show -9223372036854775808 ≤ (j : Int) - (k : Int) by omega) (by omega), qez (by omega) (by omega)]
    · rw [e] at h0
      exact absurd h0 (by show ¬ decide ((-1 : Int) < 0) = false; decide)

theorem qno {b : qy} {j : Nat} (hok : qfx b) (h : blockB b = true) (hj : j < (places b.Design).length) : Ev (fun n => qf0 n b (j : Int)) (succL b j) := by
  have hd := qbJ h
  have hs := qaW hd
  have hl := qb6 hs
  obtain ⟨n0, n1⟩ := qiL hd hj
  obtain ⟨jd, hjd, nd, dd⟩ := qqV hd n0 n1
  have hsl : (sinksL b.Design (gt (places b.Design) j).net (places b.Design).length).length ≤ 78 := by
    rw [qeS]
    have : cntP (snkQ b.Design (gt (places b.Design) j).net) (places b.Design).length ≤ (places b.Design).length := qea
    omega
  unfold qf0
  refine Ev.bind (qlO hok h hj) (Ev.bind (ql9 hok h hj) (Ev.bind (qm3 h hjd nd dd) ?_))
  have e0 : ((jd : Int) == (j : Int)) = (gt (places b.Design) j).drives := by
    rw [Bool.eq_iff_iff, beq_iff_eq]
    constructor
    · intro e
      obtain rfl : jd = j := by omega
      exact dd
    · intro hdj
      have := qnb hd hjd hj nd dd hdj
      omega
  rw [e0]
  unfold succL
  refine Ev.iff (fun _ => ?_) (fun _ => Ev.iff (fun _ => .done) (fun h0 => ?_))
  · refine Ev.bind (qkF hs) ?_
    have hL : Ev (fun n => qbA b (sinksL b.Design (gt (places b.Design) j).net (places b.Design).length) n ([] : List Int) 0) ((sinksL b.Design (gt (places b.Design) j).net (places b.Design).length).filter (freeB b), ((sinksL b.Design (gt (places b.Design) j).net (places b.Design).length).length : Int)) := by
      refine loopF (Lf := qbA b (sinksL b.Design (gt (places b.Design) j).net (places b.Design).length)) (S := fun m => ((sinksL b.Design (gt (places b.Design) j).net (places b.Design).length).take m).filter (freeB b)) (len := (sinksL b.Design (gt (places b.Design) j).net (places b.Design).length).length) (fun n => ?_) (fun m hm X hX => ?_)
      · simp only [qbA, qw (Nat.le_refl _), cond_false, List.take_length]
      · obtain ⟨y, hy, ey, _⟩ := qmx hm
        have hc : (((sinksL b.Design (gt (places b.Design) j).net (places b.Design).length).take m).filter (freeB b)).length + [(y : Int)].length ≤ 2147483648 := by
          have h1 := List.length_filter_le (freeB b) ((sinksL b.Design (gt (places b.Design) j).net (places b.Design).length).take m)
          rw [List.length_take] at h1
          rw [List.length_singleton]; omega
        have eg : (sinksL b.Design (gt (places b.Design) j).net (places b.Design).length)[m] = (y : Int) := by
          rw [qg6 hm] at ey; exact Option.some.inj ey
        rw [List.take_succ_eq_append_getElem hm, List.filter_append, eg] at hX
        simp only [qbA, qv hm, cond_true, ey, Option.bind_some, qr (show m < 9223372036854775807 by omega)]
        refine Ev.bind (qny hok h hy) ?_
        have hf : freeB b (y : Int) = !clkB b (gt (places b.Design) y) := by unfold freeB; rw [Int.toNat_natCast]
        cases h3 : clkB b (gt (places b.Design) y)
        · rw [h3] at hf
          rw [List.filter_cons_of_pos (by rw [hf]; rfl), List.filter_nil] at hX
          simp only [Bool.not_false, cond_true, qd0 hc, Option.bind_some]
          exact hX
        · rw [h3] at hf
          rw [List.filter_cons_of_neg (by rw [hf]; decide), List.filter_nil, List.append_nil] at hX
          exact hX
    exact Ev.bind hL .done
  · rcases qgi hj with ⟨i, k, hi, hk, ej, e⟩ | ⟨i, hi, _, e⟩
    · obtain ⟨⟨c0, c1⟩, hn, hcb⟩ := qhC hd hi
      have hxs := hs.nx i hi
      rw [e]
      have ec : cellAt b (place1 b.Design i k).instance_ = gt b.Library.Cells (gt b.Design.Instances i).Cell.toNat := by
        unfold cellAt place1; rw [Int.toNat_natCast]
      rw [ec]
      have hA := qjJ hcb
      have e1 : ∀ n, qe1 n b (toSp (place1 b.Design i k)).instance_ = some (gt b.Library.Cells (gt b.Design.Instances i).Cell.toNat) := by
        intro n
        unfold place1 toSp
        simp only [qe1, qal hi, qft c0 c1, Option.bind_some]
      have e2 : Ev (fun n => qfE n b.Design (toSp (place1 b.Design i k)).instance_ (W64 (((gt b.Library.Cells (gt b.Design.Instances i).Cell.toNat).Pins.length : Int) - 1))) ((j : Int) - (k : Int) + (((gt b.Library.Cells (gt b.Design.Instances i).Cell.toNat).Pins.length : Int) - 1)) := by
        have := qok h hi (k := (gt b.Library.Cells (gt b.Design.Instances i).Cell.toNat).Pins.length - 1) (by omega)
        rw [qbK (by omega), show ((gt b.Library.Cells (gt b.Design.Instances i).Cell.toNat).Pins.length : Int) - 1 = (((gt b.Library.Cells (gt b.Design.Instances i).Cell.toNat).Pins.length - 1 : Nat) : Int) by omega]
        refine this.cast ?_
        omega
      have hL2 : Ev (fun n => qcz b (toSp (place1 b.Design i k)) (gt b.Library.Cells (gt b.Design.Instances i).Cell.toNat) n 0) (bif ((gt b.Library.Cells (gt b.Design.Instances i).Cell.toNat).Arcs.all fun a => !((a.From == (k : Int)) && decide (a.Kind ≤ 3))) then .nxt ((gt b.Library.Cells (gt b.Design.Instances i).Cell.toNat).Arcs.length : Int) else .ret [(j : Int) - (k : Int) + (((gt b.Library.Cells (gt b.Design.Instances i).Cell.toNat).Pins.length : Int) - 1)]) :=
        qi0 (fun n => by simp only [qcz, qw (Nat.le_refl _), cond_false]) (fun m hm X hX => by
          simp only [qcz, qv hm, cond_true, qg6 hm, Option.bind_some, qr (show m < 9223372036854775807 by omega)]
          rw [show (toSp (place1 b.Design i k)).pin = (k : Int) from rfl]
          refine Ev.bind (b := ((gt b.Library.Cells (gt b.Design.Instances i).Cell.toNat).Arcs[m].From == (k : Int)) && decide ((gt b.Library.Cells (gt b.Design.Instances i).Cell.toNat).Arcs[m].Kind ≤ 3)) (Ev.andP fun _ => .done) ?_
          cases (((gt b.Library.Cells (gt b.Design.Instances i).Cell.toNat).Arcs[m].From == (k : Int)) && decide ((gt b.Library.Cells (gt b.Design.Instances i).Cell.toNat).Arcs[m].Kind ≤ 3))
          · exact hX
          · exact Ev.bind e2 .done)
      refine Ev.bind ⟨0, fun n _ => e1 n⟩ (Ev.bind hL2 ?_)
      have e3 : dataB (gt b.Library.Cells (gt b.Design.Instances i).Cell.toNat) (place1 b.Design i k).pin = !((gt b.Library.Cells (gt b.Design.Instances i).Cell.toNat).Arcs.all fun a => !((a.From == (k : Int)) && decide (a.Kind ≤ 3))) := by
        unfold dataB
        rw [show (place1 b.Design i k).pin = (k : Int) from rfl, Bool.eq_iff_iff]
        simp
      rw [e3, show (place1 b.Design i k).pin = (k : Int) from rfl]
      cases ((gt b.Library.Cells (gt b.Design.Instances i).Cell.toNat).Arcs.all fun a => !((a.From == (k : Int)) && decide (a.Kind ≤ 3))) <;> exact .done
    · rw [e] at h0
      exact absurd h0 (by show ¬ decide ((-1 : Int) < 0) = false; decide)

theorem qmh {b : qy} (h : blockB b = true) {j : Nat} : (succL b j).length ≤ 78 := by
  have hs := qaW (qbJ h)
  have hl := qb6 hs
  unfold succL
  cases (gt (places b.Design) j).drives
  · cases decide ((gt (places b.Design) j).instance_ < 0)
    · cases dataB (cellAt b (gt (places b.Design) j).instance_) (gt (places b.Design) j).pin
      · exact Nat.zero_le _
      · show 1 ≤ 78; omega
    · exact Nat.zero_le _
  · have h1 := List.length_filter_le (freeB b) (sinksL b.Design (gt (places b.Design) j).net (places b.Design).length)
    rw [qeS] at h1
    have : cntP (snkQ b.Design (gt (places b.Design) j).net) (places b.Design).length ≤ (places b.Design).length := qea
    simp only [cond_true]
    omega

def inPl (b : qy) (x : Int) : Bool := inI x 0 (((places b.Design).length : Int) - 1)
end Go.Fw


namespace Go.Fw
open Go Go.Proofs
open Go.RowKit (Below)
set_option maxRecDepth 100000
def qeG (n : Nat) (a : qm) (left : Int) : Option Int :=
 (qbk n a.From left).bind fun r1 =>
 bif decide (r1 < 0) then
  some (-1)
 else
  (qbk n a.Through r1).bind fun r2 =>
  bif decide (r2 < 0) then
   some (-1)
  else
   (qbk n a.To r2).bind fun r3 =>
   bif decide (r3 < 0) then
    some (-1)
   else
    some r3

theorem qjG {n : Nat} {w : World} {a : qm} {left : Int} {cs1 : List Value} (ha1 : GoT.R w (old w) a cs1) {r : Int} (hF : qeG n a left = some r) : RetV Tryz.prog 9 [GoT.v qm cs1, .int .i64 left] w r := by
 obtain ⟨p1, k1, p2, k2, p3, k3, rfl, s1, s2, s3⟩ := qar ha1
 refine qe Tryz.func9 rfl (m := 24) rfl rfl (fun h => ?_)
 rw [qeG] at hF
 refine zSR (qM h rfl rfl ?_)
 intro w1 bb1 h
 refine zp1 rfl (zNSR (zp1 rfl (zl 0 2 h rfl (zp1 rfl ?_))))
 obtain ⟨r1, hr1, hF⟩ := qd hF
 refine qQ r1 h call32 (qbd ⟨_, _, rfl, (h.oldS s1)⟩ hr1) rfl rfl rfl rfl ?_
 intro w2 h
 refine zp1 rfl (zNSSR (zp2 rfl (qb ?_)))
 refine qq rfl hF ?_ ?_ <;> intro hF
 ·exact zSR (zp1 rfl (qb (qaB qc h hF ⟨rfl, trivial⟩)))
 refine zKSR (zp1 rfl (zl 0 3 h rfl (zp1 rfl ?_)))
 obtain ⟨r2, hr2, hF⟩ := qd hF
 refine qQ r2 h call32 (qbd ⟨_, _, rfl, (h.oldS s2)⟩ hr2) rfl rfl rfl rfl ?_
 intro w3 h
 refine zp1 rfl (zNSSR (zp2 rfl (qb ?_)))
 refine qq rfl hF ?_ ?_ <;> intro hF
 ·exact zSR (zp1 rfl (qb (qaB qc h hF ⟨rfl, trivial⟩)))
 refine zKSR (zp1 rfl (zl 0 4 h rfl (zp1 rfl ?_)))
 obtain ⟨r3, hr3, hF⟩ := qd hF
 refine qQ r3 h call32 (qbd ⟨_, _, rfl, (h.oldS s3)⟩ hr3) rfl rfl rfl rfl ?_
 intro w4 h
 refine zp1 rfl (zNSSR (zp2 rfl (qb ?_)))
 refine qq rfl hF ?_ ?_ <;> intro hF
 ·exact zSR (zp1 rfl (qb (qaB qc h hF ⟨rfl, trivial⟩)))
 exact zKSR (zp2 rfl (qb (qaB qc h hF ⟨rfl, trivial⟩)))

def qdI (n : Nat) (b : qy) : Option Int :=
 (qcD n (⟨b.Design.Instances, b.Design.Nets, b.Design.Ports⟩ : qk)).bind fun r1 =>
 some (r1.length : Int)

theorem qiq {n : Nat} {w : World} {b : qy} {cs1 : List Value} (ha1 : GoT.R w (old w) b cs1) {r : Int} (hF : qdI n b = some r) : RetV Tryz.prog 48 [GoT.v qy cs1] w r := by
 obtain ⟨p1, k1, p2, k2, p3, k3, p4, k4, p5, k5, rfl, s1, s2, s3, s4, s5⟩ := qas ha1
 refine qe Tryz.func48 rfl (m := 7) rfl rfl (fun h => ?_)
 rw [qdI] at hF
 refine zSR (qM h rfl rfl ?_)
 intro w1 bb1 h
 refine zp1 rfl (zNSR (zp1 rfl (zl 0 1 h rfl ?_)))
 obtain ⟨r1, hr1, hF⟩ := qd hF
 refine qak r1 h call93 (qek (qba (⟨b.Design.Instances, b.Design.Nets, b.Design.Ports⟩ : qk) (h.oldS s2) (h.oldS s3) (h.oldS s4)) hr1) rfl rfl rfl rfl ?_
 intro w2 S1 p6 k6 h
 exact zp2 rfl (qb (qaB qc h hF ⟨rfl, trivial⟩))

def qbv (b : qy) (list : (List Int)) (sorted : Bool) : Nat → Int → Option (Flow Bool Int)
 | 0, _ => none
 | n + 1, i1 =>
  bif decide (i1 < (list.length : Int)) then
   (idx list i1).bind fun y1 =>
   (qdI n b).bind fun r1 =>
   (qam n y1 0 (W64 (r1 - 1))).bind fun r2 =>
   bif (!r2) then
    some (.ret false)
   else
    bif sorted then
     bif decide (i1 > 0) then
      (idx list (W64 (i1 - 1))).bind fun y2 =>
      (idx list i1).bind fun y3 =>
      bif decide (y2 ≥ y3) then
       some (.ret false)
      else
       qbv b list sorted n (W64 (i1 + 1))
     else
      qbv b list sorted n (W64 (i1 + 1))
    else
     qbv b list sorted n (W64 (i1 + 1))
  else
   some (.nxt i1)

def qdP (n : Nat) (b : qy) (list : (List Int)) (sorted : Bool) : Option Bool :=
 (qbv b list sorted n 0).bind fun o => match o with
 | .ret r => some r
 | .nxt _ =>
  some (decide ((list.length : Int) ≤ 4))

theorem qgH {n : Nat} {w : World} {b : qy} {list : (List Int)} {sorted : Bool} {cs1 : List Value} (ha1 : GoT.R w (old w) b cs1) {cs2 : List Value} (ha2 : GoT.R w (old w) list cs2) {r : Bool} (hF : qdP n b list sorted = some r) : RetV Tryz.prog 34 [GoT.v qy cs1, GoT.v (List Int) cs2, .bool sorted] w r := by
 obtain ⟨p1, k1, p2, k2, p3, k3, p4, k4, p5, k5, rfl, s1, s2, s3, s4, s5⟩ := qas ha1
 obtain ⟨p6, k6, rfl, s6⟩ := ha2
 refine qe Tryz.func34 rfl (m := 45) rfl rfl (fun h => ?_)
 rw [qdP] at hF
 refine zSR (qM h rfl rfl ?_)
 intro w1 bb1 h
 refine zp1 rfl (zNSSR (zp1 rfl (qb ?_)))
 obtain ⟨o1, hF, hK1⟩ := qd hF
 refine qz (qT [(1, _), (2, _), (3, _), (7, _)] ⟨rfl, rfl, rfl, rfl, trivial⟩ ?_)
 refine qH (fun m e w' => ∃ (i1 : Int), qbv b list sorted m i1 = some o1 ∧ e = [(1, .slice p6 list.length k6), (2, .bool sorted), (3, .pointer (some ⟨bb1, 0, none⟩)), (7, .int .i64 i1)] ∧ SH w w' [Ch.box bb1 [.slice p1 b.Library.Cells.length k1, .slice p2 b.Design.Instances.length k2, .slice p3 b.Design.Nets.length k3, .slice p4 b.Design.Ports.length k4, .slice p5 b.Wires.length k5] 48]) n ⟨_, hF, rfl, h⟩ ?_
 rintro m1 e1 w2 ⟨i1, hF, rfl, h⟩
 rcases m1 with _ | m1
 ·rw [qbv] at hF
  cases hF
 rw [qbv] at hF
 refine zSSR (zp4 rfl (qb ?_))
 refine qq rfl hF ?_ ?_ <;> intro hF
 ·refine zKSB (qbn ?_)
  refine qco rfl (by kernel_rfl) ?_
  refine zd2 rfl ?_
  obtain ⟨y1, hy1, hF⟩ := qd hF
  have he1 := qg hy1
  obtain ⟨b1, o_1, q1, cs3, hp1, hq1, -, hr1, hc2⟩ := s6.at hy1
  obtain rfl := hr1
  refine zdxe hp1 hq1 he1 rfl ?_
  refine zdc 0 (hc2.below h.below) rfl ?_
  refine zdl 0 0 h rfl ?_
  obtain ⟨r1, hr2, hF⟩ := qd hF
  refine qcf r1 (vsI _) call48 (fun _ hb => qiq ((h.ext hb).old ha1) hr2) rfl rfl rfl rfl ?_
  refine zd1 rfl ?_
  obtain ⟨r2, hr3, hF⟩ := qd hF
  refine qcf r2 (vsB _) call35 (fun _ hb => qaf  hr3) rfl rfl rfl rfl ?_
  refine zd2 rfl ?_
  by_cases hc3 : (!r2) = true
  ·replace hF := bifT hc3 hF
   refine qb0 hc3 (t := 23) rfl (qh rfl rfl rfl (qh rfl rfl rfl (qh rfl rfl rfl (qh rfl rfl rfl (qh rfl rfl rfl (qh rfl rfl rfl (qh rfl rfl rfl (qh rfl rfl rfl (qh rfl rfl rfl (qh rfl rfl rfl (qh rfl rfl rfl ?_)))))))))))
   refine qh rfl rfl rfl (qh rfl rfl rfl (qh rfl rfl rfl (qh rfl rfl rfl (qh rfl rfl rfl (qh rfl rfl rfl (zd1 rfl ?_))))))
   refine qaX (fun w3 hb => ?_)
   replace h := h.ext hb
   clear hb
   refine qef rfl rfl (zSR (zp1 rfl (qb ?_)))
   obtain rfl := qj hF; replace hF := hK1
   exact qu qc h hF ⟨rfl, trivial⟩
  replace hc3 := zb hc3
  replace hF := bifF hc3 hF
  refine qb3 hc3 (t := 23) rfl (qf rfl (zd1 rfl (qf rfl (zd1 rfl ?_))))
  by_cases hc4 : sorted = true
  ·replace hF := bifT hc4 hF
   refine qb0 hc4 (t := 25) rfl (qf rfl (zd1 rfl (qf rfl (zd1 rfl (qf rfl (zd1 rfl (qf rfl (zd1 rfl ?_))))))))
   by_cases hc5 : (decide (i1 > 0)) = true
   ·replace hF := bifT hc5 hF
    refine qb0 hc5 (t := 29) rfl (qf rfl (zd1 rfl (qf rfl (zd1 rfl (qf rfl (zd1 rfl (qf rfl ?_)))))))
    obtain ⟨y2, hy2, hF⟩ := qd hF
    have he2 := qg hy2
    obtain ⟨b2, o_2, q2, cs4, hp2, hq2, -, hr4, hc6⟩ := s6.at hy2
    obtain rfl := hr4
    refine zdxe hp2 hq2 he2 rfl ?_
    refine qf rfl ?_
    refine zdc 0 (hc6.below h.below) rfl ?_
    refine qf rfl (zd1 rfl (qf rfl (zd1 rfl (qf rfl ?_))))
    obtain ⟨y3, hy3, hF⟩ := qd hF
    have he3 := qg hy3
    obtain ⟨b3, o_3, q3, cs5, hp3, hq3, -, hr5, hc7⟩ := s6.at hy3
    obtain rfl := hr5
    refine zdxe hp3 hq3 he3 rfl ?_
    refine qf rfl ?_
    refine zdc 0 (hc7.below h.below) rfl ?_
    refine qf rfl (zd1 rfl (qf rfl (zd2 rfl ?_)))
    refine qaX (fun w4 hb => ?_)
    replace h := h.ext hb
    clear hb
    refine qq rfl hF ?_ ?_ <;> intro hF
    ·refine zSR (zp1 rfl (qb ?_))
     obtain rfl := qj hF; replace hF := hK1
     exact qu qc h hF ⟨rfl, trivial⟩
    exact zKER (zp3 rfl (qb (qA m1 [(1, _), (2, _), (3, _), (7, _)] (Nat.lt_succ_self m1) ⟨rfl, rfl, rfl, rfl, trivial⟩ ⟨_, hF, rfl, h⟩)))
   replace hc5 := zb hc5
   replace hF := bifF hc5 hF
   refine qb3 hc5 (t := 29) rfl (qh rfl rfl rfl (qh rfl rfl rfl (qh rfl rfl rfl (qh rfl rfl rfl (qh rfl rfl rfl (qh rfl rfl rfl (qh rfl rfl rfl (qh rfl rfl rfl (qh rfl rfl rfl (qh rfl rfl rfl (qf rfl ?_)))))))))))
   refine zd2 rfl ?_
   refine qaX (fun w5 hb => ?_)
   replace h := h.ext hb
   clear hb
   exact qc3 rfl rfl (zKER (zp3 rfl (qb (qA m1 [(1, _), (2, _), (3, _), (7, _)] (Nat.lt_succ_self m1) ⟨rfl, rfl, rfl, rfl, trivial⟩ ⟨_, hF, rfl, h⟩))))
  replace hc4 := zb hc4
  replace hF := bifF hc4 hF
  refine qb3 hc4 (t := 25) rfl (qh rfl rfl rfl (qh rfl rfl rfl (qf rfl (zd1 rfl (qf rfl (zd1 rfl (qh rfl rfl rfl (qh rfl rfl rfl (qh rfl rfl rfl (qh rfl rfl rfl (qh rfl rfl rfl ?_)))))))))))
  refine qh rfl rfl rfl (qh rfl rfl rfl (qh rfl rfl rfl (qh rfl rfl rfl (qh rfl rfl rfl (qf rfl (zd2 rfl ?_))))))
  refine qaX (fun w6 hb => ?_)
  replace h := h.ext hb
  clear hb
  exact qc3 rfl rfl (zKER (zp3 rfl (qb (qA m1 [(1, _), (2, _), (3, _), (7, _)] (Nat.lt_succ_self m1) ⟨rfl, rfl, rfl, rfl, trivial⟩ ⟨_, hF, rfl, h⟩))))
 refine qI rfl ?_
 obtain rfl := qj hF; replace hF := hK1
 exact zSR (zp4 rfl (qb (qu qc h hF ⟨rfl, trivial⟩)))

def qex (n : Nat) (b : qy) (a_e : qm) : Option Bool :=
 (
  (qfH n b).bind fun r4 =>
  bif (!r4) then
   some true
  else
   (qdP n b a_e.From true).bind fun r5 =>
   bif (!r5) then
    some true
   else
    (qdP n b a_e.Through false).bind fun r6 =>
    bif (!r6) then
     some true
    else
     (qdP n b a_e.To true).bind fun r7 =>
     some (!r7)).bind fun b1 =>
 bif b1 then
  some false
 else
  bif (a_e.Kind == 1) then
   some (a_e.Value == 0)
  else
   bif (a_e.Kind == 2) then
    (qam n a_e.Value 1 10).bind fun r1 =>
    some r1
   else
    bif (a_e.Kind == 3) then
     bif (a_e.Kind == 3) then
      (qam n a_e.Value 0 1000000000).bind fun r2 =>
      some r2
     else
      some false
    else
     bif (a_e.Kind == 4) then
      (qam n a_e.Value 0 1000000000).bind fun r3 =>
      some r3
     else
      some false

theorem qjD {n : Nat} {w : World} {b : qy} {a_e : qm} {cs1 : List Value} (ha1 : GoT.R w (old w) b cs1) {cs2 : List Value} (ha2 : GoT.R w (old w) a_e cs2) {r : Bool} (hF : qex n b a_e = some r) : RetV Tryz.prog 10 [GoT.v qy cs1, GoT.v qm cs2] w r := by
 obtain ⟨p1, k1, p2, k2, p3, k3, p4, k4, p5, k5, rfl, s1, s2, s3, s4, s5⟩ := qas ha1
 obtain ⟨p6, k6, p7, k7, p8, k8, rfl, s6, s7, s8⟩ := qar ha2
 refine qe Tryz.func10 rfl (m := 47) rfl rfl (fun h => ?_)
 rw [qex] at hF
 refine zSR (qM h rfl rfl ?_)
 intro w1 bb1 h
 refine qM h rfl rfl ?_
 intro w2 bb2 h
 refine zp1 rfl (zNSS ?_)
 obtain ⟨KF1, hKF1, o1, hF, hK1⟩ := bindE hF
 refine qem (fun e w' => ∃ (b1 : Bool), KF1 b1 = some r ∧ e = [(3, .pointer (some ⟨bb2, 0, none⟩)), (28, .bool b1)] ∧ SH w w' [Ch.box bb2 [.int .i64 a_e.Kind, .int .i64 a_e.Value, .slice p6 a_e.From.length k6, .slice p7 a_e.Through.length k7, .slice p8 a_e.To.length k8] 50]) ?_ ?_
 ·refine qE (zl 1 0 h rfl ?_)
  obtain ⟨r4, hr4, hF⟩ := qd hF
  refine ql r4 h call33 (qiQ (h.old ha1) hr4) rfl rfl rfl rfl ?_
  intro w6 h
  refine zp2 rfl ?_
  by_cases hc7 : (!r4) = true
  ·replace hF := bifT hc7 hF
   refine qC hc7 (t := 8) rfl (zn5 rfl (zp2 rfl (zn4 rfl ?_)))
   refine zn1 rfl (zp2 rfl (zn5 rfl (zp1 rfl (qb ?_))))
   replace h := h.pick [0] rfl
   obtain rfl := qj hF
   exact qx [(3, _), (28, _)] ⟨rfl, rfl, trivial⟩ ⟨_, hK1, rfl, h⟩
  replace hc7 := zb hc7
  replace hF := bifF hc7 hF
  refine qB hc7 (t := 8) rfl (qa rfl (zl 1 0 h rfl (qa rfl (zp1 rfl (qa rfl (zl 0 2 h rfl (qa rfl ?_)))))))
  obtain ⟨r5, hr5, hF⟩ := qd hF
  refine ql r5 h call34 (qgH (h.old ha1) ⟨_, _, rfl, (h.oldS s6)⟩ hr5) rfl rfl rfl rfl ?_
  intro w7 h
  refine qa rfl (zp3 rfl ?_)
  by_cases hc8 : (!r5) = true
  ·replace hF := bifT hc8 hF
   refine qC hc8 (t := 15) rfl (zn5 rfl (zp2 rfl (zn4 rfl ?_)))
   refine zn1 rfl (zp1 rfl (qb ?_))
   replace h := h.pick [0] rfl
   obtain rfl := qj hF
   exact qx [(3, _), (28, _)] ⟨rfl, rfl, trivial⟩ ⟨_, hK1, rfl, h⟩
  replace hc8 := zb hc8
  replace hF := bifF hc8 hF
  refine qB hc8 (t := 15) rfl (qa rfl (zl 1 0 h rfl (qa rfl (zp1 rfl (qa rfl (zl 0 3 h rfl (qa rfl ?_)))))))
  obtain ⟨r6, hr6, hF⟩ := qd hF
  refine ql r6 h call34 (qgH (h.old ha1) ⟨_, _, rfl, (h.oldS s7)⟩ hr6) rfl rfl rfl rfl ?_
  intro w8 h
  refine qa rfl (zp3 rfl ?_)
  by_cases hc9 : (!r6) = true
  ·replace hF := bifT hc9 hF
   refine qC hc9 (t := 22) rfl (zn5 rfl (zp1 rfl (qb ?_)))
   replace h := h.pick [0] rfl
   obtain rfl := qj hF
   exact qx [(3, _), (28, _)] ⟨rfl, rfl, trivial⟩ ⟨_, hK1, rfl, h⟩
  replace hc9 := zb hc9
  replace hF := bifF hc9 hF
  refine qB hc9 (t := 22) rfl (qa rfl (zl 1 0 h rfl (qa rfl (zp1 rfl (qa rfl (zl 0 4 h rfl (qa rfl ?_)))))))
  obtain ⟨r7, hr7, hF⟩ := qd hF
  refine ql r7 h call34 (qgH (h.old ha1) ⟨_, _, rfl, (h.oldS s8)⟩ hr7) rfl rfl rfl rfl ?_
  intro w9 h
  refine qa rfl (zp2 rfl (qb ?_))
  replace h := h.pick [0] rfl
  obtain rfl := qj hF
  exact qx [(3, _), (28, _)] ⟨rfl, rfl, trivial⟩ ⟨_, hK1, rfl, h⟩
 rintro e1 w10 ⟨b1, hF, rfl, h⟩
 subst hKF1
 refine qq rfl hF ?_ ?_ <;> intro hF
 ·exact zSR (zp1 rfl (qb (qu qc h hF ⟨rfl, trivial⟩)))
 refine zKSSR (zp1 rfl (zl 0 0 h rfl (qb (zBSR (zp2 rfl ?_)))))
 refine qb ?_
 refine qq rfl hF ?_ ?_ <;> intro hF
 ·exact zSR (zp1 rfl (zl 0 1 h rfl (zp2 rfl (qb (qu qc h hF ⟨rfl, trivial⟩)))))
 refine zSR (zp2 rfl (qb ?_))
 refine qq rfl hF ?_ ?_ <;> intro hF
 ·refine zSR (zp1 rfl (zl 0 1 h rfl ?_))
  obtain ⟨r1, hr1, hF⟩ := qd hF
  refine ql r1 h call35 (qaf hr1) rfl rfl rfl rfl ?_
  intro w3 h
  exact zp1 rfl (qb (qu qc h hF ⟨rfl, trivial⟩))
 refine zSSR (zp2 rfl (qb ?_))
 refine qq rfl hF ?_ ?_ <;> intro hF
 ·refine qd4 ?_
  refine qq rfl hF ?_ ?_ <;> intro hF
  ·refine zSR (zp1 rfl (zl 0 1 h rfl ?_))
   obtain ⟨r2, hr2, hF⟩ := qd hF
   refine ql r2 h call35 (qaf hr2) rfl rfl rfl rfl ?_
   intro w4 h
   exact zp1 rfl (qb (qu qc h hF ⟨rfl, trivial⟩))
  exact zKE (zSR (zp1 rfl (qb (qu qc h hF ⟨rfl, trivial⟩))))
 refine qE (zp2 rfl (qb ?_))
 refine qq rfl hF ?_ ?_ <;> intro hF
 ·refine zSR (zp1 rfl (zl 0 1 h rfl ?_))
  obtain ⟨r3, hr3, hF⟩ := qd hF
  refine ql r3 h call35 (qaf hr3) rfl rfl rfl rfl ?_
  intro w5 h
  exact zp1 rfl (qb (qu qc h hF ⟨rfl, trivial⟩))
 exact zKE (zSR (zp1 rfl (qb (qu qc h hF ⟨rfl, trivial⟩))))

def qc6 (n : Nat) (a : qm) : Option qm :=
 (qaD n a.From).bind fun r1 =>
 (qaD n a.Through).bind fun r2 =>
 (qaD n a.To).bind fun r3 =>
 some (⟨a.Kind, a.Value, r1, r2, r3⟩ : qm)

theorem qfO {n : Nat} {w : World} {a : qm} {cs1 : List Value} (ha1 : GoT.R w (old w) a cs1) {r : qm} (hF : qc6 n a = some r) : RetV Tryz.prog 12 [GoT.v qm cs1] w r := by
 obtain ⟨p1, k1, p2, k2, p3, k3, rfl, s1, s2, s3⟩ := qar ha1
 refine qe Tryz.func12 rfl (m := 23) rfl rfl (fun h => ?_)
 rw [qc6] at hF
 refine zSR (qM h rfl rfl ?_)
 intro w1 bb1 h
 refine qU qc h rfl rfl rfl ?_
 intro w2 bb2 h
 refine zNSR (qU qc h rfl rfl rfl ?_)
 intro w3 bb3 h
 refine zNSR (zp1 rfl (zl 2 0 h rfl (zp1 rfl (zs 0 h rfl ?_))))
 intro w4 h
 refine zNSR (zp1 rfl (zl 2 1 h rfl (zp1 rfl (zs 0 h rfl ?_))))
 intro w5 h
 replace h : SH _ _ [Ch.box bb3 [.int .i64 a.Kind, .int .i64 a.Value, .slice none 0 0, .slice none 0 0, .slice none 0 0] 50, Ch.box bb2 [.int .i64 0, .int .i64 0, .slice none 0 0, .slice none 0 0, .slice none 0 0] 50, Ch.box bb1 [.int .i64 a.Kind, .int .i64 a.Value, .slice p1 a.From.length k1, .slice p2 a.Through.length k2, .slice p3 a.To.length k3] 35] := h
 refine zNSR (zp1 rfl (zl 2 2 h rfl ?_))
 obtain ⟨r1, hr1, hF⟩ := qd hF
 refine qak r1 h call27 (qaA ⟨_, _, rfl, (h.oldS s1)⟩ hr1) rfl rfl rfl rfl ?_
 intro w6 S1 p4 k4 h
 refine zp1 rfl (zs 1 h rfl ?_)
 intro w7 h
 refine zNSR (zp1 rfl (zl 3 3 h rfl ?_))
 obtain ⟨r2, hr2, hF⟩ := qd hF
 refine qak r2 h call27 (qaA ⟨_, _, rfl, (h.oldS s2)⟩ hr2) rfl rfl rfl rfl ?_
 intro w8 S2 p5 k5 h
 refine zp1 rfl (zs 2 h rfl ?_)
 intro w9 h
 replace h : SH _ _ [Ch.own S2 (r2 : List Int) [.slice p5 r2.length k5], Ch.own S1 (r1 : List Int) [.slice p4 r1.length k4], Ch.box bb3 [.int .i64 a.Kind, .int .i64 a.Value, .slice p4 r1.length k4, .slice p5 r2.length k5, .slice none 0 0] 50, Ch.box bb2 [.int .i64 0, .int .i64 0, .slice none 0 0, .slice none 0 0, .slice none 0 0] 50, Ch.box bb1 [.int .i64 a.Kind, .int .i64 a.Value, .slice p1 a.From.length k1, .slice p2 a.Through.length k2, .slice p3 a.To.length k3] 35] := h
 refine zNSR (zp1 rfl (zl 4 4 h rfl ?_))
 obtain ⟨r3, hr3, hF⟩ := qd hF
 refine qak r3 h call27 (qaA ⟨_, _, rfl, (h.oldS s3)⟩ hr3) rfl rfl rfl rfl ?_
 intro w10 S3 p6 k6 h
 refine zp1 rfl (zs 3 h rfl ?_)
 intro w11 h
 refine zNSR (zl 3 0 h rfl (zs 4 h rfl ?_))
 intro w12 h
 replace h : SH _ _ [Ch.own S3 (r3 : List Int) [.slice p6 r3.length k6], Ch.own S2 (r2 : List Int) [.slice p5 r2.length k5], Ch.own S1 (r1 : List Int) [.slice p4 r1.length k4], Ch.box bb3 [.int .i64 a.Kind, .int .i64 a.Value, .slice p4 r1.length k4, .slice p5 r2.length k5, .slice p6 r3.length k6] 50, Ch.box bb2 [.int .i64 a.Kind, .int .i64 a.Value, .slice p4 r1.length k4, .slice p5 r2.length k5, .slice p6 r3.length k6] 50, Ch.box bb1 [.int .i64 a.Kind, .int .i64 a.Value, .slice p1 a.From.length k1, .slice p2 a.Through.length k2, .slice p3 a.To.length k3] 35] := h
 refine qb ?_
 obtain rfl := qj hF
 exact qap qc (ρ := qm) [GoT.v qm [.int .i64 a.Kind, .int .i64 a.Value, .slice p4 r1.length k4, .slice p5 r2.length k5, .slice p6 r3.length k6]] h ⟨⟨_, _, _, rfl, rfl, h.box 4 rfl, rfl⟩, trivial⟩ (PV.done h (qav (ql1 (⟨a.Kind, a.Value, r1, r2, r3⟩ : qm) h (qbl (S := fun _ => False) rfl) (qbl (S := fun _ => False) rfl) (qaz 2 h rfl) (qaz 1 h rfl) (qaz 0 h rfl) (by rfl) (by rfl) (by rfl) (by rfl))))

def qbf (_ : Nat) (list : (List Tplace)) : Option Int :=
 some (list.length : Int)

theorem qfM {n : Nat} {w : World} {list : (List Tplace)} {cs1 : List Value} (ha1 : GoT.R w (old w) list cs1) {r : Int} (hF : qbf n list = some r) : RetV Tryz.prog 83 [GoT.v (List Tplace) cs1] w r := by
 obtain ⟨p1, k1, rfl, s1⟩ := ha1
 refine qe Tryz.func83 rfl (m := 5) rfl rfl (fun h => ?_)
 rw [qbf] at hF
 exact zSR (zp1 rfl (zNSR (zp3 rfl (qb (qaB qc h hF ⟨rfl, trivial⟩)))))

def qgG (n : Nat) (kind : Int) (value : Int) : Option Bool :=
 bif (kind == 1) then
  some (value == 0)
 else
  bif (kind == 2) then
   (qaM n value 1 10).bind fun r1 =>
   some r1
  else
   bif (kind == 3) then
    bif (kind == 3) then
     (qaM n value 0 1000000000).bind fun r2 =>
     some r2
    else
     some false
   else
    bif (kind == 4) then
     (qaM n value 0 1000000000).bind fun r3 =>
     some r3
    else
     some false

theorem qkM {n : Nat} {w : World} {kind : Int} {value : Int}  {r : Bool} (hF : qgG n kind value = some r) : RetV Tryz.prog 84 [.int .i64 kind, .int .i64 value] w r := by
 refine qe Tryz.func84 rfl (m := 19) rfl rfl (fun h => ?_)
 rw [qgG] at hF
 refine zSR (zp1 rfl (zNSSR (zp1 rfl (qb (zBSR ?_)))))
 refine zp2 rfl (qb ?_)
 refine qq rfl hF ?_ ?_ <;> intro hF
 ·exact zSR (zp3 rfl (qb (qu qc h hF ⟨rfl, trivial⟩)))
 refine zSR (zp2 rfl (qb ?_))
 refine qq rfl hF ?_ ?_ <;> intro hF
 ·refine zSR (zp1 rfl ?_)
  obtain ⟨r1, hr1, hF⟩ := qd hF
  refine ql r1 h call100 (qaw hr1) rfl rfl rfl rfl ?_
  intro w1 h
  exact zp1 rfl (qb (qu qc h hF ⟨rfl, trivial⟩))
 refine zSSR (zp2 rfl (qb ?_))
 refine qq rfl hF ?_ ?_ <;> intro hF
 ·refine qd4 ?_
  refine qq rfl hF ?_ ?_ <;> intro hF
  ·refine zSR (zp1 rfl ?_)
   obtain ⟨r2, hr2, hF⟩ := qd hF
   refine ql r2 h call100 (qaw hr2) rfl rfl rfl rfl ?_
   intro w2 h
   exact zp1 rfl (qb (qu qc h hF ⟨rfl, trivial⟩))
  exact zKE (zSR (zp1 rfl (qb (qu qc h hF ⟨rfl, trivial⟩))))
 refine qE (zp2 rfl (qb ?_))
 refine qq rfl hF ?_ ?_ <;> intro hF
 ·refine zSR (zp1 rfl ?_)
  obtain ⟨r3, hr3, hF⟩ := qd hF
  refine ql r3 h call100 (qaw hr3) rfl rfl rfl rfl ?_
  intro w3 h
  exact zp1 rfl (qb (qu qc h hF ⟨rfl, trivial⟩))
 exact zKE (zSR (zp1 rfl (qb (qu qc h hF ⟨rfl, trivial⟩))))

def qaa (v : (Option Tview)) (a_e : qm) : Nat → Int → Option (Flow Bool Int)
 | 0, _ => none
 | n + 1, i1 =>
  bif decide (i1 < ((3 : Nat) : Int)) then
   (idx ([a_e.From, a_e.Through, a_e.To] : List (List Int)) i1).bind fun y1 =>
   bif decide ((y1.length : Int) > 4) then
    some (.ret false)
   else
    (v).bind fun y2 =>
    (qbf n y2.places).bind fun r1 =>
    (qbs n y1 0 (W64 (r1 - 1))).bind fun r2 =>
    bif (!r2) then
     some (.ret false)
    else
     qaa v a_e n (W64 (i1 + 1))
  else
   some (.nxt i1)

def qc4 (n : Nat) (v : (Option Tview)) (a_e : qm) : Option Bool :=
 (qaa v a_e n 0).bind fun o => match o with
 | .ret r => some r
 | .nxt _ =>
  (qgG n a_e.Kind a_e.Value).bind fun r3 =>
  bif r3 then
   (qcI n a_e.From).bind fun r4 =>
   bif r4 then
    (qcI n a_e.To).bind fun r5 =>
    some r5
   else
    some false
  else
   some false

theorem qic {n : Nat} {w : World} {v : (Option Tview)} {a_e : qm} {cs1 : List Value} (ha1 : GoT.R w (old w) v cs1) {cs2 : List Value} (ha2 : GoT.R w (old w) a_e cs2) {r : Bool} (hF : qc4 n v a_e = some r) : RetV Tryz.prog 41 [GoT.v (Option Tview) cs1, GoT.v qm cs2] w r := by
 obtain ⟨p1, rfl, s1⟩ := qi6 ha1
 obtain ⟨p2, k1, p3, k2, p4, k3, rfl, s2, s3, s4⟩ := qar ha2
 refine qe Tryz.func41 rfl (m := 49) rfl rfl (fun h => ?_)
 rw [qc4] at hF
 refine zSR (qM h rfl rfl ?_)
 intro w1 bb1 h
 refine zp1 rfl (zNSSR (zp1 rfl (zl 0 2 h rfl (zp1 rfl (zl 0 3 h rfl (zp1 rfl (zl 0 4 h rfl (qmn qc [.tmp 8, .tmp 10, .tmp 12] _ ([a_e.From, a_e.Through, a_e.To] : List (List Int)) h rfl rfl rfl rfl rfl rfl rfl rfl rfl ⟨⟨_, _, rfl, s2⟩, ⟨_, _, rfl, s3⟩, ⟨_, _, rfl, s4⟩, trivial⟩ rfl ?_))))))))
 intro w2 p5 S1 h
 refine zp2 rfl (qb ?_)
 obtain ⟨o1, hF, hK1⟩ := qd hF
 refine qz (qT [(0, _), (3, _), (13, _), (14, _), (15, _)] ⟨rfl, rfl, rfl, rfl, rfl, trivial⟩ ?_)
 refine qH (fun m e w' => ∃ (i1 : Int), qaa v a_e m i1 = some o1 ∧ e = [(0, .pointer p1), (3, .pointer (some ⟨bb1, 0, none⟩)), (13, .slice p5 3 3), (14, .int .i64 ((3 : Nat) : Int)), (15, .int .i64 i1)] ∧ SH w w' [Ch.rowD w S1 (([a_e.From, a_e.Through, a_e.To] : List (List Int)) : List (List Int)) p5 3, Ch.box bb1 [.int .i64 a_e.Kind, .int .i64 a_e.Value, .slice p2 a_e.From.length k1, .slice p3 a_e.Through.length k2, .slice p4 a_e.To.length k3] 50]) n ⟨_, hF, rfl, h⟩ ?_
 rintro m1 e1 w3 ⟨i1, hF, rfl, h⟩
 rcases m1 with _ | m1
 ·rw [qaa] at hF
  cases hF
 rw [qaa] at hF
 refine zSR (zp1 rfl (zNS ?_))
 refine qq rfl hF ?_ ?_ <;> intro hF
 ·refine zKSBSR ?_
  obtain ⟨y1, hy1, hF⟩ := qd hF
  have he1 := qg hy1
  obtain ⟨b1, o_1, q1, cs3, hp1, hq1, -, hr1, hc2⟩ := h.atD 0 rfl hy1
  obtain ⟨p6, k4, rfl, s5⟩ := hr1
  refine zxe hp1 hq1 he1 rfl (zc 0 hc2 rfl (zp1 rfl (zNSR (zp4 rfl ?_))))
  by_cases hc3 : (decide ((y1.length : Int) > 4)) = true
  ·replace hF := bifT hc3 hF
   refine qC hc3 (t := 22) rfl (zn5 rfl (zn4 rfl (zp1 rfl (qb ?_))))
   refine qef rfl rfl (zSR (zp1 rfl (qb ?_)))
   obtain rfl := qj hF; replace hF := hK1
   exact qu qc h hF ⟨rfl, trivial⟩
  replace hc3 := zb hc3
  replace hF := bifF hc3 hF
  refine qB hc3 (t := 22) rfl (qa rfl (zp1 rfl (qa rfl (zp1 rfl (qa rfl ?_)))))
  obtain ⟨y2, hy2, hF⟩ := qd hF
  obtain ⟨b2, o_2, cs4, rfl, -, hr2, hc4⟩ := PtR.get s1 hy2
  obtain ⟨p7, k5, p8, k6, p9, k7, p10, k8, p11, k9, p12, k10, p13, k11, p14, k12, p15, k13, p16, k14, rfl, s6, s7, s8, s9, s10, s11, s12, s13, s14, s15⟩ := qiA hr2
  refine zp1 rfl (qa rfl (zp1 rfl (qa rfl (zc 5 (hc4.below h.below) rfl (qa rfl ?_)))))
  obtain ⟨r1, hr3, hF⟩ := qd hF
  refine qQ r1 h call83 (qfM ⟨_, _, rfl, (h.oldS s11)⟩ hr3) rfl rfl rfl rfl ?_
  intro w4 h
  refine qa rfl (zp1 rfl (qa rfl ?_))
  obtain ⟨r2, hr4, hF⟩ := qd hF
  refine ql r2 h call82 (qb9 ⟨_, _, rfl, (h.oldS s5)⟩ hr4) rfl rfl rfl rfl ?_
  intro w5 h
  refine qa rfl (zp2 rfl (qb ?_))
  refine qq rfl hF ?_ ?_ <;> intro hF
  ·refine zSR (zp1 rfl (qb ?_))
   obtain rfl := qj hF; replace hF := hK1
   exact qu qc h hF ⟨rfl, trivial⟩
  exact zKER (zp2 rfl (qb (qA m1 [(0, _), (3, _), (13, _), (14, _), (15, _)] (Nat.lt_succ_self m1) ⟨rfl, rfl, rfl, rfl, rfl, trivial⟩ ⟨_, hF, rfl, h⟩)))
 refine qI rfl ?_
 obtain rfl := qj hF; replace hF := hK1
 refine zSR (zp1 rfl (zl 1 0 h rfl (zp1 rfl (zl 1 1 h rfl ?_))))
 obtain ⟨r3, hr5, hF⟩ := qd hF
 refine ql r3 h call84 (qkM hr5) rfl rfl rfl rfl ?_
 intro w6 h
 refine zp1 rfl ?_
 by_cases hc6 : r3 = true
 ·replace hF := bifT hc6 hF
  refine qC hc6 (t := 39) rfl (qa rfl (zp1 rfl (qa rfl (zl 1 2 h rfl (qa rfl ?_)))))
  obtain ⟨r4, hr6, hF⟩ := qd hF
  refine ql r4 h call85 (qfv ⟨_, _, rfl, (h.oldS s2)⟩ hr6) rfl rfl rfl rfl ?_
  intro w7 h
  refine zp2 rfl ?_
  by_cases hc7 : r4 = true
  ·replace hF := bifT hc7 hF
   refine qC hc7 (t := 44) rfl (qa rfl (zp1 rfl (qa rfl (zl 1 4 h rfl (qa rfl ?_)))))
   obtain ⟨r5, hr7, hF⟩ := qd hF
   refine ql r5 h call85 (qfv ⟨_, _, rfl, (h.oldS s4)⟩ hr7) rfl rfl rfl rfl ?_
   intro w8 h
   exact zp2 rfl (qb (qu qc h hF ⟨rfl, trivial⟩))
  replace hc7 := zb hc7
  replace hF := bifF hc7 hF
  exact qB hc7 (t := 44) rfl (zn3 rfl (zp2 rfl (qb (qu qc h hF ⟨rfl, trivial⟩))))
 replace hc6 := zb hc6
 replace hF := bifF hc6 hF
 refine qB hc6 (t := 39) rfl (zn3 rfl (zp2 rfl (zn3 rfl (zp2 rfl (qb ?_)))))
 exact qu qc h hF ⟨rfl, trivial⟩

def qeD (n : Nat) (a : qm) (b : qm) : Option Bool :=
 bif (a.Kind != b.Kind) then
  some false
 else
  bif (a.Value != b.Value) then
   some false
  else
   (qaT n a.From b.From).bind fun r1 =>
   bif (!r1) then
    some false
   else
    (qaT n a.Through b.Through).bind fun r2 =>
    bif (!r2) then
     some false
    else
     (qaT n a.To b.To).bind fun r3 =>
     bif (!r3) then
      some false
     else
      some true

theorem qjy {n : Nat} {w : World} {a : qm} {b : qm} {cs1 : List Value} (ha1 : GoT.R w (old w) a cs1) {cs2 : List Value} (ha2 : GoT.R w (old w) b cs2) {r : Bool} (hF : qeD n a b = some r) : RetV Tryz.prog 15 [GoT.v qm cs1, GoT.v qm cs2] w r := by
 obtain ⟨p1, k1, p2, k2, p3, k3, rfl, s1, s2, s3⟩ := qar ha1
 obtain ⟨p4, k4, p5, k5, p6, k6, rfl, s4, s5, s6⟩ := qar ha2
 refine qe Tryz.func15 rfl (m := 33) rfl rfl (fun h => ?_)
 rw [qeD] at hF
 refine zSR (qM h rfl rfl ?_)
 intro w1 bb1 h
 refine qM h rfl rfl ?_
 intro w2 bb2 h
 refine zp1 rfl (zNSSR (zp1 rfl (zl 1 0 h rfl (zp1 rfl (zl 0 0 h rfl (zp1 rfl (qb ?_)))))))
 refine qq rfl hF ?_ ?_ <;> intro hF
 ·exact zSR (zp1 rfl (qb (qu qc h hF ⟨rfl, trivial⟩)))
 refine zKSSR (zp1 rfl (zl 1 1 h rfl (zp1 rfl (zl 0 1 h rfl (zp1 rfl (qb ?_))))))
 refine qq rfl hF ?_ ?_ <;> intro hF
 ·exact zSR (zp1 rfl (qb (qu qc h hF ⟨rfl, trivial⟩)))
 refine zKSSR (zp1 rfl (zl 1 2 h rfl (zp1 rfl (zl 0 2 h rfl ?_))))
 obtain ⟨r1, hr1, hF⟩ := qd hF
 refine ql r1 h call22 (qaY ⟨_, _, rfl, (h.oldS s1)⟩ ⟨_, _, rfl, (h.oldS s4)⟩ hr1) rfl rfl rfl rfl ?_
 intro w3 h
 refine zp1 rfl (qb ?_)
 refine qq rfl hF ?_ ?_ <;> intro hF
 ·exact zSR (zp1 rfl (qb (qu qc h hF ⟨rfl, trivial⟩)))
 refine zKSSR (zp1 rfl (zl 1 3 h rfl (zp1 rfl (zl 0 3 h rfl ?_))))
 obtain ⟨r2, hr2, hF⟩ := qd hF
 refine ql r2 h call22 (qaY ⟨_, _, rfl, (h.oldS s2)⟩ ⟨_, _, rfl, (h.oldS s5)⟩ hr2) rfl rfl rfl rfl ?_
 intro w4 h
 refine zp1 rfl (qb ?_)
 refine qq rfl hF ?_ ?_ <;> intro hF
 ·exact zSR (zp1 rfl (qb (qu qc h hF ⟨rfl, trivial⟩)))
 refine zKSSR (zp1 rfl (zl 1 4 h rfl (zp1 rfl (zl 0 4 h rfl ?_))))
 obtain ⟨r3, hr3, hF⟩ := qd hF
 refine ql r3 h call22 (qaY ⟨_, _, rfl, (h.oldS s3)⟩ ⟨_, _, rfl, (h.oldS s6)⟩ hr3) rfl rfl rfl rfl ?_
 intro w5 h
 refine zp1 rfl (qb ?_)
 refine qq rfl hF ?_ ?_ <;> intro hF
 ·exact zSR (zp1 rfl (qb (qu qc h hF ⟨rfl, trivial⟩)))
 exact zKSR (zp1 rfl (qb (qu qc h hF ⟨rfl, trivial⟩)))

end Go.Fw


namespace Go.Fw
open Go

def qg8 (x : qm) : Prop := rngI x.Kind ∧ rngI x.Value ∧ (rngL rngI) x.From ∧ (rngL rngI) x.Through ∧ (rngL rngI) x.To
def qds (x : qm) : Nat := qcr x.From + qcr x.Through + qcr x.To
structure qcG (x : qm) : Prop where
  Kind : okI x.Kind
  Value : okI x.Value
  From : (okL okI) x.From
  Through : (okL okI) x.Through
  To : (okL okI) x.To
theorem qlE {x : qm} (h : qg8 x) (w : qds x ≤ 1048576) : qcG x := ⟨h.1, h.2.1, qcV (h.2.2.1) (by simp only [qds] at w; omega), qcV (h.2.2.2.1) (by simp only [qds] at w; omega), qcV (h.2.2.2.2) (by simp only [qds] at w; omega)⟩
theorem qm4 {a : qm} (h : qds a ≤ 1048576) : Ev (fun n => qeD n a a) true := by
  unfold qeD
  simp only [qds] at h
  exact Ev.ff qcd (Ev.ff qcd (Ev.bind (qdM (a := a.From) (by omega)) (Ev.ff rfl (Ev.bind (qdM (a := a.Through) (by omega)) (Ev.ff rfl (Ev.bind (qdM (a := a.To) (by omega)) (Ev.ff rfl (.done))))))))

theorem qmZ {a : qm} {left : Int} (h : qg8 a) (h0 : 0 ≤ left) (h1 : left ≤ 1048576) : Sz (fun n => qeG n a left) (fun r => r = left - (qds a : Int)) := by
  unfold qeG
  obtain ⟨h_0, h_1, h_2, h_3, h_4⟩ := h
  exact Sz.step (qd8 (a := a.From) h_2 (by omega) (by omega)) fun r0 p0 q0 => Sz.step (qd8 (a := a.Through) h_3 (by omega) (by omega)) fun r1 p1 q1 => Sz.step (qd8 (a := a.To) h_4 (by omega) (by omega)) fun r2 p2 q2 => Sz.done p2 (by simp only [qds]; omega)

theorem qiJ {a : qm} (h : qds a ≤ 1048576) : Ev (fun n => qc6 n a) a := by
  unfold qc6
  simp only [qds] at h
  exact Ev.bind (qc5 (a := a.From) (by omega)) (Ev.bind (qc5 (a := a.Through) (by omega)) (Ev.bind (qc5 (a := a.To) (by omega)) (.done)))

end Go.Fw


namespace Go.Fw
open Go
set_option maxRecDepth 100000

theorem qmM {b : qy} (h : blockB b = true) : Ev (fun n => qdI n b) ((places b.Design).length : Int) := by
  unfold qdI
  exact Ev.bind (qgU (qaW (qbJ h))) (Ev.now (by rw [List.length_map]))

def plsB (b : qy) (xs : List Int) : Bool := decide (xs.length ≤ 4) && allN (fun j => inPl b (at0 xs j)) xs.length
def valB (k v : Int) : Bool := bif k == 1 then v == 0 else bif k == 2 then inI v 1 10 else bif (k == 3) || (k == 4) then inI v 0 1000000000 else false
def excB (b : qy) (e : qm) : Bool := (plsB b e.From && (plsB b e.Through && plsB b e.To)) && (valB e.Kind e.Value && (incB e.From && incB e.To))

theorem qiF {b : qy} {xs : List Int} {sorted : Bool} (h : blockB b = true) (hl : xs.length ≤ 1048576) : Ev (fun n => qdP n b xs sorted) (plsB b xs && (!sorted || incB xs)) := by
  have hpl := qb6 (qaW (qbJ h))
  have hL : Ev (fun n => qbv b xs sorted n 0) (bif allN (fun j => inPl b (at0 xs j) && (!sorted || stepB xs j)) xs.length then .nxt (xs.length : Int) else .ret false) := by
    refine qeE ?_ (fun j hj X hX => Ev.succ ?_)
    · exact Ev.succ (by simp only [qbv, qw (Nat.le_refl _), cond_false]; exact .done)
    · simp only [qbv, qv hj, cond_true, qbm hj, Option.bind_some, qdO, qr (show j < 9223372036854775807 by omega)]
      refine Ev.bind (qmM h) ?_
      rw [qbK (show (places b.Design).length ≤ 9223372036854775807 by omega)]
      simp only [qby]
      refine Ev.okP (a := inPl b (at0 xs j)) fun _ => ?_
      cases sorted
      · exact hX
      · refine Ev.tt rfl ?_
        unfold stepB
        by_cases h0 : j = 0
        · subst h0
          exact Ev.ff (by decide) hX
        · refine Ev.tt (by simp; omega) ?_
          simp only [show (j : Int) - 1 = ((j - 1 : Nat) : Int) by omega, qez (show -9223372036854775808 ≤ ((j - 1 : Nat) : Int) by omega) (by omega), qbm (show j - 1 < xs.length by omega), Option.bind_some]
          rw [show decide (at0 xs (j - 1) ≥ at0 xs j) = !decide (at0 xs (j - 1) < at0 xs j) by rw [Bool.eq_iff_iff]; simp, show decide (j = 0) = false by simp; omega]
          simp only [qby, Bool.not_true, Bool.false_or]
          exact Ev.okP1 fun _ => hX
  unfold qdP
  have e : (plsB b xs && (!sorted || incB xs)) = (allN (fun j => inPl b (at0 xs j) && (!sorted || stepB xs j)) xs.length && decide (xs.length ≤ 4)) := by
    unfold plsB incB
    rw [qhU]
    cases sorted
    · simp only [Bool.not_false, Bool.true_or, Bool.and_true]
      rw [show allN (fun _ => true) xs.length = true from qaQ.2 (fun _ _ => rfl), Bool.and_true, Bool.and_comm]
    · simp only [Bool.not_true, Bool.false_or]
      rw [Bool.and_assoc, Bool.and_comm]
  rw [e]
  refine Ev.bind hL ?_
  cases allN (fun j => inPl b (at0 xs j) && (!sorted || stepB xs j)) xs.length
  · exact .done
  · refine Ev.now ?_
    show some (decide ((xs.length : Int) ≤ ((4 : Nat) : Int))) = some (true && decide (xs.length ≤ 4))
    rw [qiC, Bool.true_and]

theorem qnL {n : Nat} {k v : Int} : qgG n k v = some (valB k v) := by
  simp only [qgG, qdJ, Option.bind_some]
  unfold valB
  cases (k == 1) <;> cases (k == 2) <;> cases (k == 3) <;> cases (k == 4) <;> rfl

theorem qlJ {b : qy} {V : Tview} {e : qm} (h : blockB b = true) (hP : V.places = places b.Design) (he : qcG e) : Ev (fun n => qc4 n (some V) e) (excB b e) := by
  have hpl := qb6 (qaW (qbJ h))
  have one : ∀ xs : List Int, xs.length ≤ 1048576 → ∀ {F : Nat → Option (Flow Bool Int)} {X : Flow Bool Int}, Ev F X →
      Ev (fun n => bif decide ((xs.length : Int) > 4) then some (.ret false) else (qbs n xs 0 (((places b.Design).length : Int) - 1)).bind fun r2 => bif (!r2) then some (.ret false) else F n) (bif plsB b xs then X else .ret false) := by
    intro xs hx F X hX
    unfold plsB
    rw [show decide ((xs.length : Int) > 4) = !decide (xs.length ≤ 4) from qm6 (k := 4)]
    simp only [qby]
    refine Ev.okP fun _ => Ev.ok1 ((qed hx).cast (by rw [qfU (d := 0)]; rfl)) fun _ => hX
  have hL : Ev (fun n => qaa (some V) e n 0) (bif plsB b e.From then (bif plsB b e.Through then (bif plsB b e.To then .nxt 3 else .ret false) else .ret false) else .ret false) := by
    refine Ev.succ ?_
    simp only [qaa, Option.bind_some, qbf, hP, qbK (show (places b.Design).length ≤ 9223372036854775807 by omega)]
    refine one e.From he.From.len (F := fun n => qaa (some V) e n 1) (Ev.succ ?_)
    simp only [qaa, Option.bind_some, qbf, hP, qbK (show (places b.Design).length ≤ 9223372036854775807 by omega)]
    refine one e.Through he.Through.len (F := fun n => qaa (some V) e n 2) (Ev.succ ?_)
    simp only [qaa, Option.bind_some, qbf, hP, qbK (show (places b.Design).length ≤ 9223372036854775807 by omega)]
    refine one e.To he.To.len (F := fun n => qaa (some V) e n 3) (Ev.succ ?_)
    exact .done
  unfold qc4 excB
  refine Ev.bind hL ?_
  cases plsB b e.From
  · exact .done
  · cases plsB b e.Through
    · exact .done
    · cases plsB b e.To
      · exact .done
      · simp only [cond_true, qnL, Option.bind_some, Bool.and_self, Bool.true_and]
        exact Ev.andP fun _ => Ev.and (qhr he.From.len) fun _ => Ev.last (qhr he.To.len)

theorem qkI {b : qy} {e : qm} (hok : qfx b) (he : qcG e) : Ev (fun n => qex n b e) (blockB b && excB b e) := by
  have eq : (blockB b && excB b e) = ((blockB b && ((plsB b e.From && (!true || incB e.From)) && ((plsB b e.Through && (!false || incB e.Through)) && (plsB b e.To && (!true || incB e.To))))) && valB e.Kind e.Value) := by
    unfold excB
    generalize blockB b = a1
    generalize plsB b e.From = a2
    generalize plsB b e.Through = a3
    generalize plsB b e.To = a4
    generalize valB e.Kind e.Value = a5
    generalize incB e.From = a6
    generalize incB e.To = a7
    cases a1 <;> cases a2 <;> cases a3 <;> cases a4 <;> cases a5 <;> cases a6 <;> cases a7 <;> rfl
  rw [eq]
  unfold qex
  refine Ev.guardB (Ev.or (qkB hok) fun h => Ev.or (qiF h he.From.len) fun _ => Ev.or (qiF h he.Through.len) fun _ => Ev.neg (qiF h he.To.len)) fun _ => ?_
  simp only [qdO, Option.bind_some]
  unfold valB
  cases (e.Kind == 1) <;> cases (e.Kind == 2) <;> cases (e.Kind == 3) <;> cases (e.Kind == 4) <;> exact .done

end Go.Fw
