/- By a program of mine (gen.py): for each function a plain function and the proof that the code computes it. -/
import Derived.Test.YtihkipojhdehnaaGreatDoorE1
import Derived.Test.YtihkipojhdehnaaGreatDoorB7
import Derived.Test.YtihkipojhdehnaaGreatDoorFw34

namespace Go.Fw
open Go Go.Proofs
open Go.RowKit (Below)
set_option maxRecDepth 100000
set_option maxHeartbeats 1600000
def qd3 (list : (List Int)) (x : Int) : Nat → Int → Option (Flow Int Int)
 | 0, _ => none
 | n + 1, i1 =>
  bif decide (i1 < (list.length : Int)) then
   (idx list i1).bind fun y1 =>
   bif (y1 == x) then
    some (.ret i1)
   else
    qd3 list x n (W64 (i1 + 1))
  else
   some (.nxt i1)

def qg6 (n : Nat) (list : (List Int)) (x : Int) : Option Int :=
 (qd3 list x n 0).bind fun o => match o with
 | .ret r => some r
 | .nxt _ =>
  some (-1)

theorem qkk {n : Nat} {w : World} {list : (List Int)} {x : Int} {cs1 : List Value} (ha1 : GoT.R w (old w) list cs1) {r : Int} (hF : qg6 n list x = some r) : RetV Tryz.prog 79 [GoT.v (List Int) cs1, .int .i64 x] w r := by
 obtain ⟨p1, k1, rfl, s1⟩ := ha1
 refine qe Tryz.func79 rfl (m := 19) rfl rfl (fun h => ?_)
 rw [qg6] at hF
 refine zSR (zp1 rfl (zNSSR (zp1 rfl (qb ?_))))
 obtain ⟨o1, hF, hK1⟩ := qd hF
 refine qw (qP [(0, _), (1, _), (5, _)] ⟨rfl, rfl, rfl, trivial⟩ ?_)
 refine qH (fun m e w' => ∃ (i1 : Int), qd3 list x m i1 = some o1 ∧ e = [(0, .slice p1 list.length k1), (1, .int .i64 x), (5, .int .i64 i1)] ∧ SH w w' []) n ⟨_, hF, rfl, h⟩ ?_
 rintro m1 e1 w1 ⟨i1, hF, rfl, h⟩
 rcases m1 with _ | m1
 ·rw [qd3] at hF
  cases hF
 rw [qd3] at hF
 refine zSSR (zp4 rfl (qb ?_))
 refine qr rfl hF ?_ ?_ <;> intro hF
 ·refine zKSBSR (zp2 rfl ?_)
  obtain ⟨y1, hy1, hF⟩ := qd hF
  have he1 := qf hy1
  obtain ⟨b1, o_1, q1, cs2, hp1, hq1, -, hr1, hc2⟩ := s1.at hy1
  obtain rfl := hr1
  refine zxe hp1 hq1 he1 rfl (zc 0 (hc2.below h.below) rfl (zp2 rfl (qb ?_)))
  refine qr rfl hF ?_ ?_ <;> intro hF
  ·refine zSR (zp2 rfl (qb ?_))
   obtain rfl := qh hF; replace hF := hK1
   exact qaA qc h hF ⟨rfl, trivial⟩
  exact zKER (zp3 rfl (qb (qA m1 [(0, _), (1, _), (5, _)] (Nat.lt_succ_self m1) ⟨rfl, rfl, rfl, trivial⟩ ⟨_, hF, rfl, h⟩)))
 refine qG rfl ?_
 obtain rfl := qh hF; replace hF := hK1
 exact zSR (zp1 rfl (qb (qaA qc h hF ⟨rfl, trivial⟩)))

def qbs (b : qz) (path : (List Int)) : Nat → Int → Option (Flow Bool Int)
 | 0, _ => none
 | n + 1, i1 =>
  bif decide (i1 < (path.length : Int)) then
   (idx path i1).bind fun y1 =>
   (qep n b).bind fun r1 =>
   (qaD n y1 0 (W64 (r1 - 1))).bind fun r2 =>
   bif (!r2) then
    some (.ret false)
   else
    bif decide (i1 > 0) then
     (idx path (W64 (i1 - 1))).bind fun y2 =>
     (idx path i1).bind fun y3 =>
     (qgK n b y2).bind fun r3 =>
     (qg6 n r3 y3).bind fun r4 =>
     bif decide (r4 < 0) then
      some (.ret false)
     else
      qbs b path n (W64 (i1 + 1))
    else
     qbs b path n (W64 (i1 + 1))
  else
   some (.nxt i1)

def qfS (n : Nat) (b : qz) (path : (List Int)) : Option Bool :=
 (
  (qfF n b).bind fun r5 =>
  bif (!r5) then
   some true
  else
   bif decide ((path.length : Int) < 1) then
    some true
   else
    some (decide ((path.length : Int) > 60))).bind fun b1 =>
 bif b1 then
  some false
 else
  (qbs b path n 0).bind fun o => match o with
  | .ret r => some r
  | .nxt _ =>
   some true

theorem qkZ {n : Nat} {w : World} {b : qz} {path : (List Int)} {cs1 : List Value} (ha1 : GoT.R w (old w) b cs1) {cs2 : List Value} (ha2 : GoT.R w (old w) path cs2) {r : Bool} (hF : qfS n b path = some r) : RetV Tryz.prog 63 [GoT.v qz cs1, GoT.v (List Int) cs2] w r := by
 obtain ⟨p1, k1, p2, k2, p3, k3, p4, k4, p5, k5, rfl, s1, s2, s3, s4, s5⟩ := qaq ha1
 obtain ⟨p6, k6, rfl, s6⟩ := ha2
 refine qe Tryz.func63 rfl (m := 53) rfl rfl (fun h => ?_)
 rw [qfS] at hF
 refine zSR (qN h rfl rfl ?_)
 intro w1 bb1 h
 refine zp1 rfl (zNSS ?_)
 obtain ⟨KF1, hKF1, o2, hF, hK2⟩ := bindE hF
 refine qek (fun e w' => ∃ (b1 : Bool), KF1 b1 = some r ∧ e = [(1, .slice p6 path.length k6), (2, .pointer (some ⟨bb1, 0, none⟩)), (18, .bool b1)] ∧ SH w w' [Ch.box bb1 [.slice p1 b.Library.Cells.length k1, .slice p2 b.Design.Instances.length k2, .slice p3 b.Design.Nets.length k3, .slice p4 b.Design.Ports.length k4, .slice p5 b.Wires.length k5] 50]) ?_ ?_
 ·refine qB (zl 0 0 h rfl ?_)
  obtain ⟨r5, hr8, hF⟩ := qd hF
  refine qp r5 h call104 (qiw (h.old ha1) hr8) rfl rfl rfl rfl ?_
  intro w8 h
  refine zp2 rfl ?_
  by_cases hc9 : (!r5) = true
  ·replace hF := bifT hc9 hF
   refine qE hc9 (t := 9) rfl (zn3 rfl (zp2 rfl (zn3 rfl (zp1 rfl (qb ?_)))))
   obtain rfl := qh hF
   exact qx [(1, _), (2, _), (18, _)] ⟨rfl, rfl, rfl, trivial⟩ ⟨_, hK2, rfl, h⟩
  replace hc9 := zb hc9
  replace hF := bifF hc9 hF
  refine qD hc9 (t := 9) rfl (qa rfl (zp1 rfl (qa rfl (zp1 rfl (qa rfl (zp3 rfl ?_))))))
  by_cases hc10 : (decide ((path.length : Int) < 1)) = true
  ·replace hF := bifT hc10 hF
   refine qE hc10 (t := 14) rfl (zn3 rfl (zp1 rfl (qb ?_)))
   obtain rfl := qh hF
   exact qx [(1, _), (2, _), (18, _)] ⟨rfl, rfl, rfl, trivial⟩ ⟨_, hK2, rfl, h⟩
  replace hc10 := zb hc10
  replace hF := bifF hc10 hF
  refine qD hc10 (t := 14) rfl (qa rfl (zp1 rfl (qa rfl (zp1 rfl (qa rfl (zp2 rfl (qb ?_)))))))
  obtain rfl := qh hF
  exact qx [(1, _), (2, _), (18, _)] ⟨rfl, rfl, rfl, trivial⟩ ⟨_, hK2, rfl, h⟩
 rintro e2 w9 ⟨b1, hF, rfl, h⟩
 subst hKF1
 refine qr rfl hF ?_ ?_ <;> intro hF
 ·exact zSR (zp1 rfl (qb (qy qc h hF ⟨rfl, trivial⟩)))
 refine zKSSR (zp1 rfl (qb ?_))
 obtain ⟨o1, hF, hK1⟩ := qd hF
 refine qw (qP [(1, _), (2, _), (5, _)] ⟨rfl, rfl, rfl, trivial⟩ ?_)
 refine qH (fun m e w' => ∃ (i1 : Int), qbs b path m i1 = some o1 ∧ e = [(1, .slice p6 path.length k6), (2, .pointer (some ⟨bb1, 0, none⟩)), (5, .int .i64 i1)] ∧ SH w w' [Ch.box bb1 [.slice p1 b.Library.Cells.length k1, .slice p2 b.Design.Instances.length k2, .slice p3 b.Design.Nets.length k3, .slice p4 b.Design.Ports.length k4, .slice p5 b.Wires.length k5] 50]) n ⟨_, hF, rfl, h⟩ ?_
 rintro m1 e1 w2 ⟨i1, hF, rfl, h⟩
 rcases m1 with _ | m1
 ·rw [qbs] at hF
  cases hF
 rw [qbs] at hF
 refine zSSR (zp4 rfl (qb ?_))
 refine qr rfl hF ?_ ?_ <;> intro hF
 ·refine zKSB (qbq ?_)
  refine qge [] (fun w' => SH w w' [Ch.box bb1 [.slice p1 b.Library.Cells.length k1, .slice p2 b.Design.Instances.length k2, .slice p3 b.Design.Nets.length k3, .slice p4 b.Design.Ports.length k4, .slice p5 b.Wires.length k5] 50]) rfl 28 rfl #[ff, ff, ff, ff, ff, ff, ff, ff, ff, ff, ff, ff, ff, ff, ff, ff, ff, ff, ff, ff, ff, ff, ff, ff, ff, ff, ff, ff] (by kernel_rfl) (fun w3 hb => ?_)
  replace h := h.ext hb
  clear hb
  refine ql 0 rfl #[tt, ff, ff, ff, ff, ff, ff, ff, ff, ff, ff, ff, ff, ff, ff, ff, ff, ff, ff, ff, ff, ff, ff, ff, ff, ff, ff, ff] (by kernel_rfl) (by kernel_rfl) (fun w' hw => v_p qc rfl w') (h.pick [0] rfl) rfl ?_
  refine ql 1 rfl #[tt, tt, ff, ff, ff, ff, ff, ff, ff, ff, ff, ff, ff, ff, ff, ff, ff, ff, ff, ff, ff, ff, ff, ff, ff, ff, ff, ff] (by kernel_rfl) (by kernel_rfl) (fun w' hw => v_p qc rfl w') (h.pick [0] rfl) rfl ?_
  obtain ⟨y1, hy1, hF⟩ := qd hF
  have he1 := qf hy1
  obtain ⟨b2, o_1, q1, cs3, hp1, hq1, -, hr1, hc3⟩ := s6.at hy1
  obtain rfl := hr1
  refine ql 2 rfl #[tt, tt, tt, ff, ff, ff, ff, ff, ff, ff, ff, ff, ff, ff, ff, ff, ff, ff, ff, ff, ff, ff, ff, ff, ff, ff, ff, ff] (by kernel_rfl) (by kernel_rfl) (fun w' hw => qf6 qc hp1 hq1 ⟨he1.1, he1.2.1⟩ rfl rfl rfl rfl rfl rfl) (h.pick [0] rfl) rfl ?_
  refine ql 3 rfl #[tt, tt, tt, tt, ff, ff, ff, ff, ff, ff, ff, ff, ff, ff, ff, ff, ff, ff, ff, ff, ff, ff, ff, ff, ff, ff, ff, ff] (by kernel_rfl) (by kernel_rfl) (fun w' hw => qbI qc (hc3.below hw.below) (j := 0) rfl rfl rfl) (h.pick [0] rfl) rfl ?_
  refine ql 4 rfl #[tt, tt, tt, tt, tt, ff, ff, ff, ff, ff, ff, ff, ff, ff, ff, ff, ff, ff, ff, ff, ff, ff, ff, ff, ff, ff, ff, ff] (by kernel_rfl) (by kernel_rfl) (fun w' hw => qbI qc (hw.box 0 rfl) (j := 0) rfl rfl rfl) (h.pick [0] rfl) rfl ?_
  refine qaI 5 rfl #[tt, tt, tt, tt, tt, tt, ff, ff, ff, ff, ff, ff, ff, ff, ff, ff, ff, ff, ff, ff, ff, ff, ff, ff, ff, ff, ff, ff] (by kernel_rfl) (by kernel_rfl) ?_
  obtain ⟨r1, hr2, hF⟩ := qd hF
  refine qR r1 h call78 (qjy (h.old ha1) hr2) rfl rfl rfl rfl ?_
  intro w4 h
  refine qaw (fun _ => (h.pick [0] rfl)) ?_
  refine ql 6 rfl #[tt, tt, tt, tt, tt, tt, tt, ff, ff, ff, ff, ff, ff, ff, ff, ff, ff, ff, ff, ff, ff, ff, ff, ff, ff, ff, ff, ff] (by kernel_rfl) (by kernel_rfl) (fun w' hw => v_p qc rfl w') (h.pick [0] rfl) rfl ?_
  refine qaI 7 rfl #[tt, tt, tt, tt, tt, tt, tt, tt, ff, ff, ff, ff, ff, ff, ff, ff, ff, ff, ff, ff, ff, ff, ff, ff, ff, ff, ff, ff] (by kernel_rfl) (by kernel_rfl) ?_
  obtain ⟨r2, hr3, hF⟩ := qd hF
  refine qp r2 h call77 (qal hr3) rfl rfl rfl rfl ?_
  intro w5 h
  refine qaw (fun _ => (h.pick [0] rfl)) ?_
  refine ql 8 rfl #[tt, tt, tt, tt, tt, tt, tt, tt, tt, ff, ff, ff, ff, ff, ff, ff, ff, ff, ff, ff, ff, ff, ff, ff, ff, ff, ff, ff] (by kernel_rfl) (by kernel_rfl) (fun w' hw => v_p qc rfl w') (h.pick [0] rfl) rfl ?_
  refine ql 9 rfl #[tt, tt, tt, tt, tt, tt, tt, tt, tt, tt, ff, ff, ff, ff, ff, ff, ff, ff, ff, ff, ff, ff, ff, ff, ff, ff, ff, ff] (by kernel_rfl) (by kernel_rfl) (fun w' hw => v_p qc rfl w') (h.pick [0] rfl) rfl ?_
  by_cases hc4 : (!r2) = true
  ·replace hF := bifT hc4 hF
   refine qqc hc4 (t := 34) rfl ?_
   refine qc4 10 rfl (by kernel_rfl) rfl #[tt, tt, tt, tt, tt, tt, tt, tt, tt, tt, tt, ff, ff, ff, ff, ff, ff, ff, ff, ff, ff, ff, ff, ff, ff, ff, ff, ff] (by kernel_rfl) (by kernel_rfl) (h.pick [0] rfl) rfl ?_
   refine qc4 11 rfl (by kernel_rfl) rfl #[tt, tt, tt, tt, tt, tt, tt, tt, tt, tt, tt, tt, ff, ff, ff, ff, ff, ff, ff, ff, ff, ff, ff, ff, ff, ff, ff, ff] (by kernel_rfl) (by kernel_rfl) (h.pick [0] rfl) rfl ?_
   refine qc4 12 rfl (by kernel_rfl) rfl #[tt, tt, tt, tt, tt, tt, tt, tt, tt, tt, tt, tt, tt, ff, ff, ff, ff, ff, ff, ff, ff, ff, ff, ff, ff, ff, ff, ff] (by kernel_rfl) (by kernel_rfl) (h.pick [0] rfl) rfl ?_
   refine qc4 13 rfl (by kernel_rfl) rfl #[tt, tt, tt, tt, tt, tt, tt, tt, tt, tt, tt, tt, tt, tt, ff, ff, ff, ff, ff, ff, ff, ff, ff, ff, ff, ff, ff, ff] (by kernel_rfl) (by kernel_rfl) (h.pick [0] rfl) rfl ?_
   refine qc4 14 rfl (by kernel_rfl) rfl #[tt, tt, tt, tt, tt, tt, tt, tt, tt, tt, tt, tt, tt, tt, tt, ff, ff, ff, ff, ff, ff, ff, ff, ff, ff, ff, ff, ff] (by kernel_rfl) (by kernel_rfl) (h.pick [0] rfl) rfl ?_
   refine qc4 15 rfl (by kernel_rfl) rfl #[tt, tt, tt, tt, tt, tt, tt, tt, tt, tt, tt, tt, tt, tt, tt, tt, ff, ff, ff, ff, ff, ff, ff, ff, ff, ff, ff, ff] (by kernel_rfl) (by kernel_rfl) (h.pick [0] rfl) rfl ?_
   refine qc4 16 rfl (by kernel_rfl) rfl #[tt, tt, tt, tt, tt, tt, tt, tt, tt, tt, tt, tt, tt, tt, tt, tt, tt, ff, ff, ff, ff, ff, ff, ff, ff, ff, ff, ff] (by kernel_rfl) (by kernel_rfl) (h.pick [0] rfl) rfl ?_
   refine qc4 17 rfl (by kernel_rfl) rfl #[tt, tt, tt, tt, tt, tt, tt, tt, tt, tt, tt, tt, tt, tt, tt, tt, tt, tt, ff, ff, ff, ff, ff, ff, ff, ff, ff, ff] (by kernel_rfl) (by kernel_rfl) (h.pick [0] rfl) rfl ?_
   refine qc4 18 rfl (by kernel_rfl) rfl #[tt, tt, tt, tt, tt, tt, tt, tt, tt, tt, tt, tt, tt, tt, tt, tt, tt, tt, tt, ff, ff, ff, ff, ff, ff, ff, ff, ff] (by kernel_rfl) (by kernel_rfl) (h.pick [0] rfl) rfl ?_
   refine qc4 19 rfl (by kernel_rfl) rfl #[tt, tt, tt, tt, tt, tt, tt, tt, tt, tt, tt, tt, tt, tt, tt, tt, tt, tt, tt, tt, ff, ff, ff, ff, ff, ff, ff, ff] (by kernel_rfl) (by kernel_rfl) (h.pick [0] rfl) rfl ?_
   refine qc4 20 rfl (by kernel_rfl) rfl #[tt, tt, tt, tt, tt, tt, tt, tt, tt, tt, tt, tt, tt, tt, tt, tt, tt, tt, tt, tt, tt, ff, ff, ff, ff, ff, ff, ff] (by kernel_rfl) (by kernel_rfl) (h.pick [0] rfl) rfl ?_
   refine qc4 21 rfl (by kernel_rfl) rfl #[tt, tt, tt, tt, tt, tt, tt, tt, tt, tt, tt, tt, tt, tt, tt, tt, tt, tt, tt, tt, tt, tt, ff, ff, ff, ff, ff, ff] (by kernel_rfl) (by kernel_rfl) (h.pick [0] rfl) rfl ?_
   refine qc4 22 rfl (by kernel_rfl) rfl #[tt, tt, tt, tt, tt, tt, tt, tt, tt, tt, tt, tt, tt, tt, tt, tt, tt, tt, tt, tt, tt, tt, tt, ff, ff, ff, ff, ff] (by kernel_rfl) (by kernel_rfl) (h.pick [0] rfl) rfl ?_
   refine qc4 23 rfl (by kernel_rfl) rfl #[tt, tt, tt, tt, tt, tt, tt, tt, tt, tt, tt, tt, tt, tt, tt, tt, tt, tt, tt, tt, tt, tt, tt, tt, ff, ff, ff, ff] (by kernel_rfl) (by kernel_rfl) (h.pick [0] rfl) rfl ?_
   refine qc4 24 rfl (by kernel_rfl) rfl #[tt, tt, tt, tt, tt, tt, tt, tt, tt, tt, tt, tt, tt, tt, tt, tt, tt, tt, tt, tt, tt, tt, tt, tt, tt, ff, ff, ff] (by kernel_rfl) (by kernel_rfl) (h.pick [0] rfl) rfl ?_
   refine qc4 25 rfl (by kernel_rfl) rfl #[tt, tt, tt, tt, tt, tt, tt, tt, tt, tt, tt, tt, tt, tt, tt, tt, tt, tt, tt, tt, tt, tt, tt, tt, tt, tt, ff, ff] (by kernel_rfl) (by kernel_rfl) (h.pick [0] rfl) rfl ?_
   refine qc4 26 rfl (by kernel_rfl) rfl #[tt, tt, tt, tt, tt, tt, tt, tt, tt, tt, tt, tt, tt, tt, tt, tt, tt, tt, tt, tt, tt, tt, tt, tt, tt, tt, tt, ff] (by kernel_rfl) (by kernel_rfl) (h.pick [0] rfl) rfl ?_
   refine ql 27 rfl #[tt, tt, tt, tt, tt, tt, tt, tt, tt, tt, tt, tt, tt, tt, tt, tt, tt, tt, tt, tt, tt, tt, tt, tt, tt, tt, tt, tt] (by kernel_rfl) (by kernel_rfl) (fun w' hw => v_p qc rfl w') (h.pick [0] rfl) rfl ?_
   refine qd4 (by kernel_rfl) ?_
   refine qe1 rfl rfl (zSR (zp1 rfl (qb ?_)))
   obtain rfl := qh hF; replace hF := hK1
   exact qy qc h hF ⟨rfl, trivial⟩
  replace hc4 := zb hc4
  replace hF := bifF hc4 hF
  refine qpS hc4 (t := 34) rfl ?_
  refine qc3 10 rfl (by kernel_rfl) #[tt, tt, tt, tt, tt, tt, tt, tt, tt, tt, tt, ff, ff, ff, ff, ff, ff, ff, ff, ff, ff, ff, ff, ff, ff, ff, ff, ff] (by kernel_rfl) (by kernel_rfl) (fun w' hw => v_p qc rfl w') (h.pick [0] rfl) rfl ?_
  refine qc3 11 rfl (by kernel_rfl) #[tt, tt, tt, tt, tt, tt, tt, tt, tt, tt, tt, tt, ff, ff, ff, ff, ff, ff, ff, ff, ff, ff, ff, ff, ff, ff, ff, ff] (by kernel_rfl) (by kernel_rfl) (fun w' hw => v_p qc rfl w') (h.pick [0] rfl) rfl ?_
  refine qc3 12 rfl (by kernel_rfl) #[tt, tt, tt, tt, tt, tt, tt, tt, tt, tt, tt, tt, tt, ff, ff, ff, ff, ff, ff, ff, ff, ff, ff, ff, ff, ff, ff, ff] (by kernel_rfl) (by kernel_rfl) (fun w' hw => v_p qc rfl w') (h.pick [0] rfl) rfl ?_
  by_cases hc5 : (decide (i1 > 0)) = true
  ·replace hF := bifT hc5 hF
   refine qqc hc5 (t := 37) rfl ?_
   refine qc3 13 rfl (by kernel_rfl) #[tt, tt, tt, tt, tt, tt, tt, tt, tt, tt, tt, tt, tt, tt, ff, ff, ff, ff, ff, ff, ff, ff, ff, ff, ff, ff, ff, ff] (by kernel_rfl) (by kernel_rfl) (fun w' hw => qbI qc (hw.box 0 rfl) (j := 0) rfl rfl rfl) (h.pick [0] rfl) rfl ?_
   refine qc3 14 rfl (by kernel_rfl) #[tt, tt, tt, tt, tt, tt, tt, tt, tt, tt, tt, tt, tt, tt, tt, ff, ff, ff, ff, ff, ff, ff, ff, ff, ff, ff, ff, ff] (by kernel_rfl) (by kernel_rfl) (fun w' hw => v_p qc rfl w') (h.pick [0] rfl) rfl ?_
   refine qc3 15 rfl (by kernel_rfl) #[tt, tt, tt, tt, tt, tt, tt, tt, tt, tt, tt, tt, tt, tt, tt, tt, ff, ff, ff, ff, ff, ff, ff, ff, ff, ff, ff, ff] (by kernel_rfl) (by kernel_rfl) (fun w' hw => v_p qc rfl w') (h.pick [0] rfl) rfl ?_
   refine qc3 16 rfl (by kernel_rfl) #[tt, tt, tt, tt, tt, tt, tt, tt, tt, tt, tt, tt, tt, tt, tt, tt, tt, ff, ff, ff, ff, ff, ff, ff, ff, ff, ff, ff] (by kernel_rfl) (by kernel_rfl) (fun w' hw => v_p qc rfl w') (h.pick [0] rfl) rfl ?_
   obtain ⟨y2, hy2, hF⟩ := qd hF
   have he2 := qf hy2
   obtain ⟨b3, o_2, q2, cs4, hp2, hq2, -, hr4, hc6⟩ := s6.at hy2
   obtain rfl := hr4
   refine qc3 17 rfl (by kernel_rfl) #[tt, tt, tt, tt, tt, tt, tt, tt, tt, tt, tt, tt, tt, tt, tt, tt, tt, tt, ff, ff, ff, ff, ff, ff, ff, ff, ff, ff] (by kernel_rfl) (by kernel_rfl) (fun w' hw => qf6 qc hp2 hq2 ⟨he2.1, he2.2.1⟩ rfl rfl rfl rfl rfl rfl) (h.pick [0] rfl) rfl ?_
   refine qc3 18 rfl (by kernel_rfl) #[tt, tt, tt, tt, tt, tt, tt, tt, tt, tt, tt, tt, tt, tt, tt, tt, tt, tt, tt, ff, ff, ff, ff, ff, ff, ff, ff, ff] (by kernel_rfl) (by kernel_rfl) (fun w' hw => qbI qc (hc6.below hw.below) (j := 0) rfl rfl rfl) (h.pick [0] rfl) rfl ?_
   refine qc3 20 rfl (by kernel_rfl) #[tt, tt, tt, tt, tt, tt, tt, tt, tt, tt, tt, tt, tt, tt, tt, tt, tt, tt, tt, ff, tt, ff, ff, ff, ff, ff, ff, ff] (by kernel_rfl) (by kernel_rfl) (fun w' hw => v_p qc rfl w') (h.pick [0] rfl) rfl ?_
   refine qc3 21 rfl (by kernel_rfl) #[tt, tt, tt, tt, tt, tt, tt, tt, tt, tt, tt, tt, tt, tt, tt, tt, tt, tt, tt, ff, tt, tt, ff, ff, ff, ff, ff, ff] (by kernel_rfl) (by kernel_rfl) (fun w' hw => v_p qc rfl w') (h.pick [0] rfl) rfl ?_
   obtain ⟨y3, hy3, hF⟩ := qd hF
   have he3 := qf hy3
   obtain ⟨b4, o_3, q3, cs5, hp3, hq3, -, hr5, hc7⟩ := s6.at hy3
   obtain rfl := hr5
   refine qc3 22 rfl (by kernel_rfl) #[tt, tt, tt, tt, tt, tt, tt, tt, tt, tt, tt, tt, tt, tt, tt, tt, tt, tt, tt, ff, tt, tt, tt, ff, ff, ff, ff, ff] (by kernel_rfl) (by kernel_rfl) (fun w' hw => qf6 qc hp3 hq3 ⟨he3.1, he3.2.1⟩ rfl rfl rfl rfl rfl rfl) (h.pick [0] rfl) rfl ?_
   refine qc3 23 rfl (by kernel_rfl) #[tt, tt, tt, tt, tt, tt, tt, tt, tt, tt, tt, tt, tt, tt, tt, tt, tt, tt, tt, ff, tt, tt, tt, tt, ff, ff, ff, ff] (by kernel_rfl) (by kernel_rfl) (fun w' hw => qbI qc (hc7.below hw.below) (j := 0) rfl rfl rfl) (h.pick [0] rfl) rfl ?_
   refine qaI 19 rfl #[tt, tt, tt, tt, tt, tt, tt, tt, tt, tt, tt, tt, tt, tt, tt, tt, tt, tt, tt, tt, tt, tt, tt, tt, ff, ff, ff, ff] (by kernel_rfl) (by kernel_rfl) ?_
   refine qa rfl ?_
   obtain ⟨r3, hr6, hF⟩ := qd hF
   refine qai r3 h call106 (qlN (h.old ha1) hr6) rfl rfl rfl rfl ?_
   intro w6 S1 p7 k7 h
   refine qaw (fun _ => (h.pick [1] rfl)) ?_
   refine qaI 24 rfl #[tt, tt, tt, tt, tt, tt, tt, tt, tt, tt, tt, tt, tt, tt, tt, tt, tt, tt, tt, tt, tt, tt, tt, tt, tt, ff, ff, ff] (by kernel_rfl) (by kernel_rfl) ?_
   refine qa rfl ?_
   obtain ⟨r4, hr7, hF⟩ := qd hF
   refine qR r4 h call79 (qkk (h.own 0 rfl) hr7) rfl rfl rfl rfl ?_
   intro w7 h
   refine qaw (fun _ => (h.pick [1] rfl)) ?_
   refine qc3 25 rfl (by kernel_rfl) #[tt, tt, tt, tt, tt, tt, tt, tt, tt, tt, tt, tt, tt, tt, tt, tt, tt, tt, tt, tt, tt, tt, tt, tt, tt, tt, ff, ff] (by kernel_rfl) (by kernel_rfl) (fun w' hw => v_p qc rfl w') (h.pick [1] rfl) rfl ?_
   refine qc3 26 rfl (by kernel_rfl) #[tt, tt, tt, tt, tt, tt, tt, tt, tt, tt, tt, tt, tt, tt, tt, tt, tt, tt, tt, tt, tt, tt, tt, tt, tt, tt, tt, ff] (by kernel_rfl) (by kernel_rfl) (fun w' hw => v_p qc rfl w') (h.pick [1] rfl) rfl ?_
   refine ql 27 rfl #[tt, tt, tt, tt, tt, tt, tt, tt, tt, tt, tt, tt, tt, tt, tt, tt, tt, tt, tt, tt, tt, tt, tt, tt, tt, tt, tt, tt] (by kernel_rfl) (by kernel_rfl) (fun w' hw => v_p qc rfl w') (h.pick [1] rfl) rfl ?_
   refine qd4 (by kernel_rfl) ?_
   refine qr rfl hF ?_ ?_ <;> intro hF
   ·refine zSR (zp1 rfl (qb ?_))
    obtain rfl := qh hF; replace hF := hK1
    exact qy qc h hF ⟨rfl, trivial⟩
   refine zKER (zp3 rfl (qb ?_))
   replace h := h.pick [1] rfl
   exact qA m1 [(1, _), (2, _), (5, _)] (Nat.lt_succ_self m1) ⟨rfl, rfl, rfl, trivial⟩ ⟨_, hF, rfl, h⟩
  replace hc5 := zb hc5
  replace hF := bifF hc5 hF
  refine qpS hc5 (t := 37) rfl ?_
  refine qc4 13 rfl (by kernel_rfl) rfl #[tt, tt, tt, tt, tt, tt, tt, tt, tt, tt, tt, tt, tt, tt, ff, ff, ff, ff, ff, ff, ff, ff, ff, ff, ff, ff, ff, ff] (by kernel_rfl) (by kernel_rfl) (h.pick [0] rfl) rfl ?_
  refine qc4 14 rfl (by kernel_rfl) rfl #[tt, tt, tt, tt, tt, tt, tt, tt, tt, tt, tt, tt, tt, tt, tt, ff, ff, ff, ff, ff, ff, ff, ff, ff, ff, ff, ff, ff] (by kernel_rfl) (by kernel_rfl) (h.pick [0] rfl) rfl ?_
  refine qc4 15 rfl (by kernel_rfl) rfl #[tt, tt, tt, tt, tt, tt, tt, tt, tt, tt, tt, tt, tt, tt, tt, tt, ff, ff, ff, ff, ff, ff, ff, ff, ff, ff, ff, ff] (by kernel_rfl) (by kernel_rfl) (h.pick [0] rfl) rfl ?_
  refine qc4 16 rfl (by kernel_rfl) rfl #[tt, tt, tt, tt, tt, tt, tt, tt, tt, tt, tt, tt, tt, tt, tt, tt, tt, ff, ff, ff, ff, ff, ff, ff, ff, ff, ff, ff] (by kernel_rfl) (by kernel_rfl) (h.pick [0] rfl) rfl ?_
  refine qc4 17 rfl (by kernel_rfl) rfl #[tt, tt, tt, tt, tt, tt, tt, tt, tt, tt, tt, tt, tt, tt, tt, tt, tt, tt, ff, ff, ff, ff, ff, ff, ff, ff, ff, ff] (by kernel_rfl) (by kernel_rfl) (h.pick [0] rfl) rfl ?_
  refine qc4 18 rfl (by kernel_rfl) rfl #[tt, tt, tt, tt, tt, tt, tt, tt, tt, tt, tt, tt, tt, tt, tt, tt, tt, tt, tt, ff, ff, ff, ff, ff, ff, ff, ff, ff] (by kernel_rfl) (by kernel_rfl) (h.pick [0] rfl) rfl ?_
  refine qc4 19 rfl (by kernel_rfl) rfl #[tt, tt, tt, tt, tt, tt, tt, tt, tt, tt, tt, tt, tt, tt, tt, tt, tt, tt, tt, tt, ff, ff, ff, ff, ff, ff, ff, ff] (by kernel_rfl) (by kernel_rfl) (h.pick [0] rfl) rfl ?_
  refine qc4 20 rfl (by kernel_rfl) rfl #[tt, tt, tt, tt, tt, tt, tt, tt, tt, tt, tt, tt, tt, tt, tt, tt, tt, tt, tt, tt, tt, ff, ff, ff, ff, ff, ff, ff] (by kernel_rfl) (by kernel_rfl) (h.pick [0] rfl) rfl ?_
  refine qc4 21 rfl (by kernel_rfl) rfl #[tt, tt, tt, tt, tt, tt, tt, tt, tt, tt, tt, tt, tt, tt, tt, tt, tt, tt, tt, tt, tt, tt, ff, ff, ff, ff, ff, ff] (by kernel_rfl) (by kernel_rfl) (h.pick [0] rfl) rfl ?_
  refine qc4 22 rfl (by kernel_rfl) rfl #[tt, tt, tt, tt, tt, tt, tt, tt, tt, tt, tt, tt, tt, tt, tt, tt, tt, tt, tt, tt, tt, tt, tt, ff, ff, ff, ff, ff] (by kernel_rfl) (by kernel_rfl) (h.pick [0] rfl) rfl ?_
  refine qc4 23 rfl (by kernel_rfl) rfl #[tt, tt, tt, tt, tt, tt, tt, tt, tt, tt, tt, tt, tt, tt, tt, tt, tt, tt, tt, tt, tt, tt, tt, tt, ff, ff, ff, ff] (by kernel_rfl) (by kernel_rfl) (h.pick [0] rfl) rfl ?_
  refine qc4 24 rfl (by kernel_rfl) rfl #[tt, tt, tt, tt, tt, tt, tt, tt, tt, tt, tt, tt, tt, tt, tt, tt, tt, tt, tt, tt, tt, tt, tt, tt, tt, ff, ff, ff] (by kernel_rfl) (by kernel_rfl) (h.pick [0] rfl) rfl ?_
  refine qc4 25 rfl (by kernel_rfl) rfl #[tt, tt, tt, tt, tt, tt, tt, tt, tt, tt, tt, tt, tt, tt, tt, tt, tt, tt, tt, tt, tt, tt, tt, tt, tt, tt, ff, ff] (by kernel_rfl) (by kernel_rfl) (h.pick [0] rfl) rfl ?_
  refine qc3 26 rfl (by kernel_rfl) #[tt, tt, tt, tt, tt, tt, tt, tt, tt, tt, tt, tt, tt, tt, tt, tt, tt, tt, tt, tt, tt, tt, tt, tt, tt, tt, tt, ff] (by kernel_rfl) (by kernel_rfl) (fun w' hw => v_p qc rfl w') (h.pick [0] rfl) rfl ?_
  refine ql 27 rfl #[tt, tt, tt, tt, tt, tt, tt, tt, tt, tt, tt, tt, tt, tt, tt, tt, tt, tt, tt, tt, tt, tt, tt, tt, tt, tt, tt, tt] (by kernel_rfl) (by kernel_rfl) (fun w' hw => v_p qc rfl w') (h.pick [0] rfl) rfl ?_
  refine qd4 (by kernel_rfl) ?_
  exact qdI rfl rfl (zKER (zp3 rfl (qb (qA m1 [(1, _), (2, _), (5, _)] (Nat.lt_succ_self m1) ⟨rfl, rfl, rfl, trivial⟩ ⟨_, hF, rfl, h⟩))))
 refine qG rfl ?_
 obtain rfl := qh hF; replace hF := hK1
 exact zSR (zp1 rfl (qb (qy qc h hF ⟨rfl, trivial⟩)))

def qbv (s : (List Int)) (v : Int) : Nat → Int → Option (Flow Int Int)
 | 0, _ => none
 | n + 1, i1 =>
  bif decide (i1 < (s.length : Int)) then
   (idx s i1).bind fun y1 =>
   bif (v == y1) then
    some (.ret i1)
   else
    qbv s v n (W64 (i1 + 1))
  else
   some (.nxt i1)

def qfD (n : Nat) (s : (List Int)) (v : Int) : Option Int :=
 (qbv s v n 0).bind fun o => match o with
 | .ret r => some r
 | .nxt _ =>
  some (-1)

theorem qjZ {n : Nat} {w : World} {s : (List Int)} {v : Int} {cs1 : List Value} (ha1 : GoT.R w (old w) s cs1) {r : Int} (hF : qfD n s v = some r) : RetV Tryz.prog 157 [GoT.v (List Int) cs1, .int .i64 v] w r := by
 obtain ⟨p1, k1, rfl, s1⟩ := ha1
 refine qe Tryz.func157 rfl (m := 19) rfl rfl (fun h => ?_)
 rw [qfD] at hF
 refine zSR (zp1 rfl (zNSSR (zp3 rfl (qb ?_))))
 obtain ⟨o1, hF, hK1⟩ := qd hF
 refine qw (qP [(0, _), (1, _), (7, _), (8, _)] ⟨rfl, rfl, rfl, rfl, trivial⟩ ?_)
 refine qH (fun m e w' => ∃ (i1 : Int), qbv s v m i1 = some o1 ∧ e = [(0, .slice p1 s.length k1), (1, .int .i64 v), (7, .int .i64 (s.length : Int)), (8, .int .i64 i1)] ∧ SH w w' []) n ⟨_, hF, rfl, h⟩ ?_
 rintro m1 e1 w1 ⟨i1, hF, rfl, h⟩
 rcases m1 with _ | m1
 ·rw [qbv] at hF
  cases hF
 rw [qbv] at hF
 refine zSR (zp1 rfl (zNS ?_))
 refine qr rfl hF ?_ ?_ <;> intro hF
 ·refine zKSBSR (zp2 rfl (zNSR (zp2 rfl ?_)))
  refine zp1 rfl ?_
  obtain ⟨y1, hy1, hF⟩ := qd hF
  have he1 := qf hy1
  obtain ⟨b1, o_1, q1, cs2, hp1, hq1, -, hr1, hc2⟩ := s1.at hy1
  obtain rfl := hr1
  refine zxe hp1 hq1 he1 rfl (zc 0 (hc2.below h.below) rfl (zp1 rfl (qb ?_)))
  refine qr rfl hF ?_ ?_ <;> intro hF
  ·refine zSR (zp2 rfl (qb ?_))
   obtain rfl := qh hF; replace hF := hK1
   exact qaA qc h hF ⟨rfl, trivial⟩
  exact zKER (zp2 rfl (qb (qA m1 [(0, _), (1, _), (7, _), (8, _)] (Nat.lt_succ_self m1) ⟨rfl, rfl, rfl, rfl, trivial⟩ ⟨_, hF, rfl, h⟩)))
 refine qG rfl ?_
 obtain rfl := qh hF; replace hF := hK1
 exact zSR (zp1 rfl (qb (qaA qc h hF ⟨rfl, trivial⟩)))

def qcD (n : Nat) (s : (List Int)) (v : Int) : Option Bool :=
 (qfD n s v).bind fun r1 =>
 some (decide (r1 ≥ 0))

theorem qgU {n : Nat} {w : World} {s : (List Int)} {v : Int} {cs1 : List Value} (ha1 : GoT.R w (old w) s cs1) {r : Bool} (hF : qcD n s v = some r) : RetV Tryz.prog 114 [GoT.v (List Int) cs1, .int .i64 v] w r := by
 obtain ⟨p1, k1, rfl, s1⟩ := ha1
 refine qe Tryz.func114 rfl (m := 9) rfl rfl (fun h => ?_)
 rw [qcD] at hF
 refine zSR (zp1 rfl (zNSR (zp2 rfl ?_)))
 obtain ⟨r1, hr1, hF⟩ := qd hF
 refine qR r1 h call157 (qjZ ⟨_, _, rfl, (h.oldS s1)⟩ hr1) rfl rfl rfl rfl ?_
 intro w1 h
 exact zp2 rfl (qb (qy qc h hF ⟨rfl, trivial⟩))

def qbc (v : (Option Tview)) (path : (List Int)) : Nat → Int → Option (Flow Bool Int)
 | 0, _ => none
 | n + 1, i1 =>
  bif decide (i1 < (path.length : Int)) then
   (idx path (W64 (i1 - 1))).bind fun y1 =>
   (idx path i1).bind fun y2 =>
   (qdP n v y1).bind fun r1 =>
   (qcD n r1 y2).bind fun r2 =>
   bif (!r2) then
    some (.ret false)
   else
    qbc v path n (W64 (i1 + 1))
  else
   some (.nxt i1)

def qd6 (n : Nat) (v : (Option Tview)) (path : (List Int)) : Option Bool :=
 (
  (qaB n path).bind fun r3 =>
  (qaX n r3 1 60).bind fun r4 =>
  bif (!r4) then
   some true
  else
   (v).bind fun y3 =>
   (qbn n y3.places).bind fun r5 =>
   (qby n path 0 (W64 (r5 - 1))).bind fun r6 =>
   some (!r6)).bind fun b1 =>
 bif b1 then
  some false
 else
  (qbc v path n 1).bind fun o => match o with
  | .ret r => some r
  | .nxt _ =>
   some true

theorem qjq {n : Nat} {w : World} {v : (Option Tview)} {path : (List Int)} {cs1 : List Value} (ha1 : GoT.R w (old w) v cs1) {cs2 : List Value} (ha2 : GoT.R w (old w) path cs2) {r : Bool} (hF : qd6 n v path = some r) : RetV Tryz.prog 67 [GoT.v (Option Tview) cs1, GoT.v (List Int) cs2] w r := by
 obtain ⟨p1, rfl, s1⟩ := qhn ha1
 obtain ⟨p2, k1, rfl, s2⟩ := ha2
 refine qe Tryz.func67 rfl (m := 40) rfl rfl (fun h => ?_)
 rw [qd6] at hF
 refine zSR (zp1 rfl (zNSS ?_))
 obtain ⟨KF1, hKF1, o2, hF, hK2⟩ := bindE hF
 refine qek (fun e w' => ∃ (b1 : Bool), KF1 b1 = some r ∧ e = [(0, .pointer p1), (1, .slice p2 path.length k1), (20, .bool b1)] ∧ SH w w' []) ?_ ?_
 ·refine qB (zp1 rfl ?_)
  obtain ⟨r3, hr5, hF⟩ := qd hF
  refine qR r3 h call87 (qbG ⟨_, _, rfl, (h.oldS s2)⟩ hr5) rfl rfl rfl rfl ?_
  intro w5 h
  obtain ⟨r4, hr6, hF⟩ := qd hF
  refine qp r4 h call86 (qaM hr6) rfl rfl rfl rfl ?_
  intro w6 h
  refine zp2 rfl ?_
  by_cases hc6 : (!r4) = true
  ·replace hF := bifT hc6 hF
   refine qE hc6 (t := 10) rfl (zn5 rfl (zn4 rfl (zp1 rfl (qb ?_))))
   obtain rfl := qh hF
   exact qx [(0, _), (1, _), (20, _)] ⟨rfl, rfl, rfl, trivial⟩ ⟨_, hK2, rfl, h⟩
  replace hc6 := zb hc6
  replace hF := bifF hc6 hF
  refine qD hc6 (t := 10) rfl (qa rfl (zp1 rfl (qa rfl (zp1 rfl (qa rfl ?_)))))
  obtain ⟨y3, hy3, hF⟩ := qd hF
  obtain ⟨b4, o_3, cs5, rfl, -, hr7, hc7⟩ := PtR.get s1 hy3
  obtain ⟨p4, k3, p5, k4, p6, k5, p7, k6, p8, k7, p9, k8, p10, k9, p11, k10, p12, k11, p13, k12, rfl, s3, s4, s5, s6, s7, s8, s9, s10, s11, s12⟩ := qjQ hr7
  refine zp1 rfl (qa rfl (zp1 rfl (qa rfl (zc 5 (hc7.below h.below) rfl (qa rfl ?_)))))
  obtain ⟨r5, hr8, hF⟩ := qd hF
  refine qR r5 h call113 (qgE ⟨_, _, rfl, (h.oldS s8)⟩ hr8) rfl rfl rfl rfl ?_
  intro w7 h
  refine qa rfl (zp1 rfl (qa rfl ?_))
  obtain ⟨r6, hr9, hF⟩ := qd hF
  refine qp r6 h call112 (qcC ⟨_, _, rfl, (h.oldS s2)⟩ hr9) rfl rfl rfl rfl ?_
  intro w8 h
  refine qa rfl (zp2 rfl (qb ?_))
  obtain rfl := qh hF
  exact qx [(0, _), (1, _), (20, _)] ⟨rfl, rfl, rfl, trivial⟩ ⟨_, hK2, rfl, h⟩
 rintro e2 w9 ⟨b1, hF, rfl, h⟩
 subst hKF1
 refine qr rfl hF ?_ ?_ <;> intro hF
 ·exact zSR (zp1 rfl (qb (qy qc h hF ⟨rfl, trivial⟩)))
 refine zKSSR (zp1 rfl (qb ?_))
 obtain ⟨o1, hF, hK1⟩ := qd hF
 refine qw (qP [(0, _), (1, _), (5, _)] ⟨rfl, rfl, rfl, trivial⟩ ?_)
 refine qH (fun m e w' => ∃ (i1 : Int), qbc v path m i1 = some o1 ∧ e = [(0, .pointer p1), (1, .slice p2 path.length k1), (5, .int .i64 i1)] ∧ SH w w' []) n ⟨_, hF, rfl, h⟩ ?_
 rintro m1 e1 w1 ⟨i1, hF, rfl, h⟩
 rcases m1 with _ | m1
 ·rw [qbc] at hF
  cases hF
 rw [qbc] at hF
 refine zSSR (zp4 rfl (qb ?_))
 refine qr rfl hF ?_ ?_ <;> intro hF
 ·refine zKSB (qbq ?_)
  refine qge [] (fun w' => SH w w' []) rfl 13 rfl #[ff, ff, ff, ff, ff, ff, ff, ff, ff, ff, ff, ff, ff] (by kernel_rfl) (fun w2 hb => ?_)
  replace h := h.ext hb
  clear hb
  refine ql 0 rfl #[tt, ff, ff, ff, ff, ff, ff, ff, ff, ff, ff, ff, ff] (by kernel_rfl) (by kernel_rfl) (fun w' hw => v_p qc rfl w') (h.pick [] rfl) rfl ?_
  refine ql 1 rfl #[tt, tt, ff, ff, ff, ff, ff, ff, ff, ff, ff, ff, ff] (by kernel_rfl) (by kernel_rfl) (fun w' hw => v_p qc rfl w') (h.pick [] rfl) rfl ?_
  refine ql 2 rfl #[tt, tt, tt, ff, ff, ff, ff, ff, ff, ff, ff, ff, ff] (by kernel_rfl) (by kernel_rfl) (fun w' hw => v_p qc rfl w') (h.pick [] rfl) rfl ?_
  refine ql 3 rfl #[tt, tt, tt, tt, ff, ff, ff, ff, ff, ff, ff, ff, ff] (by kernel_rfl) (by kernel_rfl) (fun w' hw => v_p qc rfl w') (h.pick [] rfl) rfl ?_
  obtain ⟨y1, hy1, hF⟩ := qd hF
  have he1 := qf hy1
  obtain ⟨b2, o_1, q1, cs3, hp1, hq1, -, hr1, hc3⟩ := s2.at hy1
  obtain rfl := hr1
  refine ql 4 rfl #[tt, tt, tt, tt, tt, ff, ff, ff, ff, ff, ff, ff, ff] (by kernel_rfl) (by kernel_rfl) (fun w' hw => qf6 qc hp1 hq1 ⟨he1.1, he1.2.1⟩ rfl rfl rfl rfl rfl rfl) (h.pick [] rfl) rfl ?_
  refine ql 5 rfl #[tt, tt, tt, tt, tt, tt, ff, ff, ff, ff, ff, ff, ff] (by kernel_rfl) (by kernel_rfl) (fun w' hw => qbI qc (hc3.below hw.below) (j := 0) rfl rfl rfl) (h.pick [] rfl) rfl ?_
  refine ql 7 rfl #[tt, tt, tt, tt, tt, tt, ff, tt, ff, ff, ff, ff, ff] (by kernel_rfl) (by kernel_rfl) (fun w' hw => v_p qc rfl w') (h.pick [] rfl) rfl ?_
  refine ql 8 rfl #[tt, tt, tt, tt, tt, tt, ff, tt, tt, ff, ff, ff, ff] (by kernel_rfl) (by kernel_rfl) (fun w' hw => v_p qc rfl w') (h.pick [] rfl) rfl ?_
  obtain ⟨y2, hy2, hF⟩ := qd hF
  have he2 := qf hy2
  obtain ⟨b3, o_2, q2, cs4, hp2, hq2, -, hr2, hc4⟩ := s2.at hy2
  obtain rfl := hr2
  refine ql 9 rfl #[tt, tt, tt, tt, tt, tt, ff, tt, tt, tt, ff, ff, ff] (by kernel_rfl) (by kernel_rfl) (fun w' hw => qf6 qc hp2 hq2 ⟨he2.1, he2.2.1⟩ rfl rfl rfl rfl rfl rfl) (h.pick [] rfl) rfl ?_
  refine ql 10 rfl #[tt, tt, tt, tt, tt, tt, ff, tt, tt, tt, tt, ff, ff] (by kernel_rfl) (by kernel_rfl) (fun w' hw => qbI qc (hc4.below hw.below) (j := 0) rfl rfl rfl) (h.pick [] rfl) rfl ?_
  refine qaI 6 rfl #[tt, tt, tt, tt, tt, tt, tt, tt, tt, tt, tt, ff, ff] (by kernel_rfl) (by kernel_rfl) ?_
  obtain ⟨r1, hr3, hF⟩ := qd hF
  refine qai r1 h call115 (qjA (h.old s1) hr3) rfl rfl rfl rfl ?_
  intro w3 S1 p3 k2 h
  refine qaw (fun _ => (h.pick [] rfl)) ?_
  refine qaI 11 rfl #[tt, tt, tt, tt, tt, tt, tt, tt, tt, tt, tt, tt, ff] (by kernel_rfl) (by kernel_rfl) ?_
  obtain ⟨r2, hr4, hF⟩ := qd hF
  refine qp r2 h call114 (qgU (h.own 0 rfl) hr4) rfl rfl rfl rfl ?_
  intro w4 h
  refine qaw (fun _ => (h.pick [] rfl)) ?_
  refine ql 12 rfl #[tt, tt, tt, tt, tt, tt, tt, tt, tt, tt, tt, tt, tt] (by kernel_rfl) (by kernel_rfl) (fun w' hw => v_p qc rfl w') (h.pick [] rfl) rfl ?_
  refine qd4 (by kernel_rfl) ?_
  refine qr rfl hF ?_ ?_ <;> intro hF
  ·refine zSR (zp1 rfl (qb ?_))
   obtain rfl := qh hF; replace hF := hK1
   exact qy qc h hF ⟨rfl, trivial⟩
  refine zKER (zp3 rfl (qb ?_))
  replace h := h.pick [] rfl
  exact qA m1 [(0, _), (1, _), (5, _)] (Nat.lt_succ_self m1) ⟨rfl, rfl, rfl, trivial⟩ ⟨_, hF, rfl, h⟩
 refine qG rfl ?_
 obtain rfl := qh hF; replace hF := hK1
 exact zSR (zp1 rfl (qb (qy qc h hF ⟨rfl, trivial⟩)))

def qct (n : Nat) (a_e : qg) (found : Int) (place : Int) : Option Int :=
 bif decide (found ≥ 0) then
  (qaB n a_e.Through).bind fun r1 =>
  bif decide (found < r1) then
   (idx a_e.Through found).bind fun y1 =>
   bif (y1 == place) then
    some (W64 (found + 1))
   else
    some found
  else
   some found
 else
  some found

theorem qfH {n : Nat} {w : World} {a_e : qg} {found : Int} {place : Int} {cs1 : List Value} (ha1 : GoT.R w (old w) a_e cs1) {r : Int} (hF : qct n a_e found place = some r) : RetV Tryz.prog 98 [GoT.v qg cs1, .int .i64 found, .int .i64 place] w r := by
 obtain ⟨p1, k1, p2, k2, p3, k3, rfl, s1, s2, s3⟩ := qac ha1
 refine qe Tryz.func98 rfl (m := 28) rfl rfl (fun h => ?_)
 rw [qct] at hF
 refine zSR (qN h rfl rfl ?_)
 intro w1 bb1 h
 refine zp1 rfl (zNSSR (zp3 rfl ?_))
 by_cases hc1 : (decide (found ≥ 0)) = true
 ·replace hF := bifT hc1 hF
  refine qE hc1 (t := 9) rfl (qa rfl (zp1 rfl (qa rfl (zp1 rfl (qa rfl (zl 0 3 h rfl (qa rfl ?_)))))))
  obtain ⟨r1, hr1, hF⟩ := qd hF
  refine qR r1 h call87 (qbG ⟨_, _, rfl, (h.oldS s2)⟩ hr1) rfl rfl rfl rfl ?_
  intro w2 h
  refine qa rfl (zp3 rfl ?_)
  by_cases hc2 : (decide (found < r1)) = true
  ·replace hF := bifT hc2 hF
   refine qE hc2 (t := 16) rfl (qa rfl (zp1 rfl (qa rfl (zl 0 3 h rfl (qa rfl (zp1 rfl (qa rfl ?_)))))))
   obtain ⟨y1, hy1, hF⟩ := qd hF
   have he1 := qf hy1
   obtain ⟨b1, o_1, q1, cs2, hp1, hq1, -, hr2, hc3⟩ := s2.at hy1
   obtain rfl := hr2
   refine zxe hp1 hq1 he1 rfl (qa rfl (zc 0 (hc3.below h.below) rfl (qa rfl (zp1 rfl (qa rfl (zp2 rfl (qb ?_)))))))
   refine qr rfl hF ?_ ?_ <;> intro hF
   ·exact zSR (zp3 rfl (qb (qaA qc h hF ⟨rfl, trivial⟩)))
   exact zKSR (zp2 rfl (qb (qaA qc h hF ⟨rfl, trivial⟩)))
  replace hc2 := zb hc2
  replace hF := bifF hc2 hF
  refine qD hc2 (t := 16) rfl (zn5 rfl (zn2 rfl (zp1 rfl (qb (qdI rfl rfl (qdX ?_))))))
  exact zSR (zp2 rfl (qb (qaA qc h hF ⟨rfl, trivial⟩)))
 replace hc1 := zb hc1
 replace hF := bifF hc1 hF
 refine qD hc1 (t := 9) rfl (zn5 rfl (zp2 rfl (zn4 rfl ?_)))
 refine zn3 rfl (zp1 rfl (qb (qdI rfl rfl (zKSR (zp2 rfl (qb ?_))))))
 exact qaA qc h hF ⟨rfl, trivial⟩

def qdT (n : Nat) (a_e : qg) (place : Int) : Option Int :=
 bif decide ((a_e.From.length : Int) > 0) then
  (qcD n a_e.From place).bind fun r1 =>
  bif (!r1) then
   some (-1)
  else
   (qct n a_e 0 place).bind fun r2 =>
   some r2
 else
  (qct n a_e 0 place).bind fun r3 =>
  some r3

theorem qjh {n : Nat} {w : World} {a_e : qg} {place : Int} {cs1 : List Value} (ha1 : GoT.R w (old w) a_e cs1) {r : Int} (hF : qdT n a_e place = some r) : RetV Tryz.prog 103 [GoT.v qg cs1, .int .i64 place] w r := by
 obtain ⟨p1, k1, p2, k2, p3, k3, rfl, s1, s2, s3⟩ := qac ha1
 refine qe Tryz.func103 rfl (m := 19) rfl rfl (fun h => ?_)
 rw [qdT] at hF
 refine zSR (qN h rfl rfl ?_)
 intro w1 bb1 h
 refine zp1 rfl (zNSSR (zp1 rfl (zl 0 2 h rfl (zp3 rfl ?_))))
 by_cases hc1 : (decide ((a_e.From.length : Int) > 0)) = true
 ·replace hF := bifT hc1 hF
  refine qE hc1 (t := 9) rfl (qa rfl (zp1 rfl (qa rfl (zl 0 2 h rfl (qa rfl (zp1 rfl (qa rfl ?_)))))))
  obtain ⟨r1, hr1, hF⟩ := qd hF
  refine qp r1 h call114 (qgU ⟨_, _, rfl, (h.oldS s1)⟩ hr1) rfl rfl rfl rfl ?_
  intro w2 h
  refine qa rfl (zp2 rfl (qb ?_))
  refine qr rfl hF ?_ ?_ <;> intro hF
  ·exact zSR (zp1 rfl (qb (qaA qc h hF ⟨rfl, trivial⟩)))
  refine zKSR (zl 0 0 h rfl (zp1 rfl ?_))
  obtain ⟨r2, hr2, hF⟩ := qd hF
  refine qR r2 h call98 (qfH (h.old ha1) hr2) rfl rfl rfl rfl ?_
  intro w3 h
  exact zp1 rfl (qb (qaA qc h hF ⟨rfl, trivial⟩))
 replace hc1 := zb hc1
 replace hF := bifF hc1 hF
 refine qD hc1 (t := 9) rfl (zn5 rfl (zp1 rfl (qb (qdI rfl rfl (zKSR ?_)))))
 refine zl 0 0 h rfl (zp1 rfl ?_)
 obtain ⟨r3, hr3, hF⟩ := qd hF
 refine qR r3 h call98 (qfH (h.old ha1) hr3) rfl rfl rfl rfl ?_
 intro w4 h
 exact zp1 rfl (qb (qaA qc h hF ⟨rfl, trivial⟩))

def qdN (y1 : qg) (x2 : (List Int)) : Nat → Int → Int → Option (Int × Int)
 | 0, _, _ => none
 | n + 1, i2, i3 =>
  bif decide (i3 < (x2.length : Int)) then
   (idx x2 i3).bind fun y3 =>
   (qct n y1 i2 y3).bind fun r2 =>
   qdN y1 x2 n r2 (W64 (i3 + 1))
  else
   some (i2, i3)

def qdH (list : (List qg)) (path : (List Int)) : Nat → (List Int) → Int → Option ((List Int) × Int)
 | 0, _, _ => none
 | n + 1, x1, i1 =>
  bif decide (i1 < (list.length : Int)) then
   (idx list i1).bind fun y1 =>
   (idx path 0).bind fun y2 =>
   (qdT n y1 y2).bind fun r1 =>
   (subS path 1 (path.length : Int)).bind fun x2 =>
   (qdN y1 x2 n r1 0).bind fun o => match o with
   | (i2, _) =>
    (appS x1 ([i2] : List Int)).bind fun x3 =>
    qdH list path n x3 (W64 (i1 + 1))
  else
   some (x1, i1)

def qiQ (n : Nat) (list : (List qg)) (path : (List Int)) : Option (List Int) :=
 (qdH list path n ([] : List Int) 0).bind fun o => match o with
 | (x1, _) =>
  some x1

theorem qnr {n : Nat} {w : World} {list : (List qg)} {path : (List Int)} {cs1 : List Value} (ha1 : GoT.R w (old w) list cs1) {cs2 : List Value} (ha2 : GoT.R w (old w) path cs2) {r : (List Int)} (hF : qiQ n list path = some r) : RetV Tryz.prog 61 [GoT.v (List qg) cs1, GoT.v (List Int) cs2] w r := by
 obtain ⟨p1, k1, rfl, s1⟩ := ha1
 obtain ⟨p2, k2, rfl, s2⟩ := ha2
 refine qe Tryz.func61 rfl (m := 40) rfl rfl (fun h => ?_)
 rw [qiQ] at hF
 refine zSR (zp1 rfl (zNSR (zp1 rfl (zNSSR (zp1 rfl ?_)))))
 refine zp2 rfl (qb ?_)
 replace h := h.nil (α := Int)
 obtain ⟨o1, hF, hK1⟩ := qd hF
 refine qw (qP [(1, _), (5, _), (11, _), (12, _), (13, _)] ⟨rfl, rfl, rfl, rfl, rfl, trivial⟩ ?_)
 refine qH (fun m e w' => ∃ (S1 : Nat → Prop) (p3 : Option Addr) (ln1 : Nat) (k3 : Nat) (x1 : (List Int)) (i1 : Int), qdH list path m x1 i1 = some o1 ∧ e = [(1, .slice p2 path.length k2), (5, .slice p3 ln1 k3), (11, .slice p1 list.length k1), (12, .int .i64 (list.length : Int)), (13, .int .i64 i1)] ∧ SH w w' [Ch.own S1 (x1 : List Int) [.slice p3 ln1 k3]]) n ⟨_, _, _, _, _, _, hF, rfl, h⟩ ?_
 rintro m1 e1 w1 ⟨S1, p3, ln1, k3, x1, i1, hF, rfl, h⟩
 obtain rfl := (h.sl 0 rfl).2
 rcases m1 with _ | m1
 ·rw [qdH] at hF
  cases hF
 rw [qdH] at hF
 refine zSR (zp1 rfl (zNS ?_))
 refine qr rfl hF ?_ ?_ <;> intro hF
 ·refine zKSBSR ?_
  obtain ⟨y1, hy1, hF⟩ := qd hF
  have he1 := qf hy1
  obtain ⟨b1, o_1, q1, cs3, hp1, hq1, -, hr1, hc2⟩ := s1.at hy1
  obtain ⟨p4, k4, p5, k5, p6, k6, rfl, s3, s4, s5⟩ := qac hr1
  refine zxe hp1 hq1 he1 rfl (zc 0 (hc2.below h.below) rfl (qaa qc h rfl rfl rfl ?_))
  intro w2 bb1 h
  refine zs 0 h rfl ?_
  intro w3 h
  replace h : SH _ _ [Ch.box bb1 [.int .i64 y1.Kind, .int .i64 y1.Value, .slice p4 y1.From.length k4, .slice p5 y1.Through.length k5, .slice p6 y1.To.length k6] 87, Ch.own S1 (x1 : List Int) [.slice p3 x1.length k3]] := h
  refine zNS ?_
  refine qcN rfl (by kernel_rfl) ?_
  refine zdl 0 0 h rfl ?_
  refine zd1 rfl ?_
  obtain ⟨y2, hy2, hF⟩ := qd hF
  have he2 := qf hy2
  obtain ⟨b2, o_2, q2, cs4, hp2, hq2, -, hr2, hc3⟩ := s2.at hy2
  obtain rfl := hr2
  refine zdxe hp2 hq2 he2 rfl ?_
  refine zdc 0 (hc3.below h.below) rfl ?_
  obtain ⟨r1, hr3, hF⟩ := qd hF
  refine qcO r1 (vsI _) call103 (fun _ hb => qjh (qdS y1 ((h.ext hb).oldS s3) ((h.ext hb).oldS s4) ((h.ext hb).oldS s5)) hr3) rfl rfl rfl rfl ?_
  refine zd1 rfl ?_
  refine qbj (fun w4 hb => ?_)
  replace h := h.ext hb
  clear hb
  refine zSSR (zp1 rfl ?_)
  obtain ⟨x2, hx1, hF⟩ := qd hF
  obtain ⟨p7, k7, hp3, hk1, hl1, g1⟩ := qpz (h.oldS s2) hx1
  refine r_v (qm5 qc rfl rfl rfl (qp1 g1 rfl) hp3 hk1 hl1 rfl rfl rfl rfl) rfl ?_
  have s6 := qpN s2 hx1 hp3 hk1
  refine zp2 rfl (qb ?_)
  obtain ⟨o2, hF, hK2⟩ := qd hF
  refine qw (qP [(1, _), (5, _), (7, _), (8, _), (11, _), (12, _), (13, _), (23, _), (24, _), (25, _)] ⟨rfl, rfl, rfl, rfl, rfl, rfl, rfl, rfl, rfl, rfl, trivial⟩ ?_)
  refine qH (fun m e w' => ∃ (i2 : Int) (i3 : Int), qdN y1 x2 m i2 i3 = some o2 ∧ e = [(1, .slice p2 path.length k2), (5, .slice p3 x1.length k3), (7, .pointer (some ⟨bb1, 0, none⟩)), (8, .int .i64 i2), (11, .slice p1 list.length k1), (12, .int .i64 (list.length : Int)), (13, .int .i64 i1), (23, .slice p7 x2.length k7), (24, .int .i64 (x2.length : Int)), (25, .int .i64 i3)] ∧ SH w w' [Ch.box bb1 [.int .i64 y1.Kind, .int .i64 y1.Value, .slice p4 y1.From.length k4, .slice p5 y1.Through.length k5, .slice p6 y1.To.length k6] 87, Ch.own S1 (x1 : List Int) [.slice p3 x1.length k3]]) m1 ⟨_, _, hF, rfl, h⟩ ?_
  rintro m2 e2 w5 ⟨i2, i3, hF, rfl, h⟩
  rcases m2 with _ | m2
  ·rw [qdN] at hF
   cases hF
  rw [qdN] at hF
  refine zSR (zp1 rfl (zNS ?_))
  refine qr rfl hF ?_ ?_ <;> intro hF
  ·refine zKSBSR ?_
   obtain ⟨y3, hy3, hF⟩ := qd hF
   have he3 := qf hy3
   obtain ⟨b3, o_3, q3, cs5, hp4, hq3, -, hr4, hc5⟩ := s6.at hy3
   obtain rfl := hr4
   refine zxe hp4 hq3 he3 rfl (zc 0 (hc5.below h.below) rfl (zp1 rfl (qb (qB (zl 0 0 h rfl (zp2 rfl ?_))))))
   obtain ⟨r2, hr5, hF⟩ := qd hF
   refine qR r2 h call98 (qfH (qdS y1 (h.oldS s3) (h.oldS s4) (h.oldS s5)) hr5) rfl rfl rfl rfl ?_
   intro w6 h
   exact zp1 rfl (zNER (zp2 rfl (qb (qA m2 [(1, _), (5, _), (7, _), (8, _), (11, _), (12, _), (13, _), (23, _), (24, _), (25, _)] (Nat.lt_succ_self m2) ⟨rfl, rfl, rfl, rfl, rfl, rfl, rfl, rfl, rfl, rfl, trivial⟩ ⟨_, _, hF, rfl, h⟩))))
  refine qG rfl ?_
  obtain rfl := qh hF; replace hF := hK2
  refine qB (zp2 rfl (qaz qc [.tmp 35] _ ([i2] : List Int) h rfl rfl rfl rfl rfl rfl rfl rfl rfl ⟨rfl, trivial⟩ rfl ?_))
  intro w7 p8 S2 h
  obtain ⟨x3, hx2, hF⟩ := qd hF
  obtain ⟨g2, hx2⟩ := qa6 hx2
  refine qee qc 2 h rfl (h.sl 0 rfl).1 (h.sl 0 rfl).2 rfl rfl rfl rfl rfl rfl rfl rfl rfl g2 hx2 rfl ?_
  intro w8 p9 k8 S3 h
  refine zp1 rfl (zNER (zp2 rfl (qb ?_)))
  replace h := h.pick [2] rfl
  exact qA m1 [(1, _), (5, _), (11, _), (12, _), (13, _)] (Nat.lt_succ_self m1) ⟨rfl, rfl, rfl, rfl, rfl, trivial⟩ ⟨_, _, _, _, _, _, hF, rfl, h⟩
 refine qG rfl ?_
 obtain rfl := qh hF; replace hF := hK1
 refine zSR (zp2 rfl (qb ?_))
 obtain rfl := qh hF
 exact qaj qc (ρ := (List Int)) [GoT.v (List Int) [.slice p3 x1.length k3]] h ⟨rfl, trivial⟩ (PV.done h (qap (qad 0 h rfl)))

end Go.Fw


namespace Go.Fw
open Go Go.Proofs
open Go.RowKit (Below)
set_option maxRecDepth 100000
set_option maxHeartbeats 1600000
def qdv (b : qz) (list : (List qg)) : Nat → Int → Option (Flow Int Int)
 | 0, _ => none
 | n + 1, i1 =>
  bif decide (i1 < (list.length : Int)) then
   (idx list i1).bind fun y1 =>
   (qfq n b y1).bind fun r2 =>
   bif (!r2) then
    some (.ret 5)
   else
    qdv b list n (W64 (i1 + 1))
  else
   some (.nxt i1)

def qho (n : Nat) (b : qz) (list : (List qg)) : Option Int :=
 (qfF n b).bind fun r1 =>
 bif (!r1) then
  some 1
 else
  bif decide ((list.length : Int) > 6) then
   some 3
  else
   (qdv b list n 0).bind fun o => match o with
   | .ret r => some r
   | .nxt _ =>
    some 0

theorem qmi {n : Nat} {w : World} {b : qz} {list : (List qg)} {cs1 : List Value} (ha1 : GoT.R w (old w) b cs1) {cs2 : List Value} (ha2 : GoT.R w (old w) list cs2) {r : Int} (hF : qho n b list = some r) : RetV Tryz.prog 62 [GoT.v qz cs1, GoT.v (List qg) cs2] w r := by
 obtain ⟨p1, k1, p2, k2, p3, k3, p4, k4, p5, k5, rfl, s1, s2, s3, s4, s5⟩ := qaq ha1
 obtain ⟨p6, k6, rfl, s6⟩ := ha2
 refine qe Tryz.func62 rfl (m := 25) rfl rfl (fun h => ?_)
 rw [qho] at hF
 refine zSR (qN h rfl rfl ?_)
 intro w1 bb1 h
 refine zp1 rfl (zNSSR (zl 0 0 h rfl ?_))
 obtain ⟨r1, hr1, hF⟩ := qd hF
 refine qp r1 h call104 (qiw (h.old ha1) hr1) rfl rfl rfl rfl ?_
 intro w2 h
 refine zp1 rfl (qb ?_)
 refine qr rfl hF ?_ ?_ <;> intro hF
 ·exact zSR (zp1 rfl (qb (qaA qc h hF ⟨rfl, trivial⟩)))
 refine zKSSR (zp3 rfl (qb ?_))
 refine qr rfl hF ?_ ?_ <;> intro hF
 ·exact zSR (zp1 rfl (qb (qaA qc h hF ⟨rfl, trivial⟩)))
 refine zKSSR (zp1 rfl (qb ?_))
 obtain ⟨o1, hF, hK1⟩ := qd hF
 refine qw (qP [(1, _), (2, _), (5, _)] ⟨rfl, rfl, rfl, trivial⟩ ?_)
 refine qH (fun m e w' => ∃ (i1 : Int), qdv b list m i1 = some o1 ∧ e = [(1, .slice p6 list.length k6), (2, .pointer (some ⟨bb1, 0, none⟩)), (5, .int .i64 i1)] ∧ SH w w' [Ch.box bb1 [.slice p1 b.Library.Cells.length k1, .slice p2 b.Design.Instances.length k2, .slice p3 b.Design.Nets.length k3, .slice p4 b.Design.Ports.length k4, .slice p5 b.Wires.length k5] 50]) n ⟨_, hF, rfl, h⟩ ?_
 rintro m1 e1 w3 ⟨i1, hF, rfl, h⟩
 rcases m1 with _ | m1
 ·rw [qdv] at hF
  cases hF
 rw [qdv] at hF
 refine zSSR (zp4 rfl (qb ?_))
 refine qr rfl hF ?_ ?_ <;> intro hF
 ·refine zKSB (qbq ?_)
  refine qcN rfl (by kernel_rfl) ?_
  refine zdl 0 0 h rfl ?_
  refine zd2 rfl ?_
  obtain ⟨y1, hy1, hF⟩ := qd hF
  have he1 := qf hy1
  obtain ⟨b1, o_1, q1, cs3, hp1, hq1, -, hr2, hc4⟩ := s6.at hy1
  obtain ⟨p7, k7, p8, k8, p9, k9, rfl, s7, s8, s9⟩ := qac hr2
  refine zdxe hp1 hq1 he1 rfl ?_
  refine zdc 0 (hc4.below h.below) rfl ?_
  obtain ⟨r2, hr3, hF⟩ := qd hF
  refine qcO r2 (vsB _) call105 (fun _ hb => qkL ((h.ext hb).old ha1) (qdS y1 ((h.ext hb).oldS s7) ((h.ext hb).oldS s8) ((h.ext hb).oldS s9)) hr3) rfl rfl rfl rfl ?_
  refine zd1 rfl ?_
  refine qbj (fun w4 hb => ?_)
  replace h := h.ext hb
  clear hb
  refine qr rfl hF ?_ ?_ <;> intro hF
  ·refine zSR (zp1 rfl (qb ?_))
   obtain rfl := qh hF; replace hF := hK1
   exact qaA qc h hF ⟨rfl, trivial⟩
  exact zKER (zp3 rfl (qb (qA m1 [(1, _), (2, _), (5, _)] (Nat.lt_succ_self m1) ⟨rfl, rfl, rfl, trivial⟩ ⟨_, hF, rfl, h⟩)))
 refine qG rfl ?_
 obtain rfl := qh hF; replace hF := hK1
 exact zSR (zp1 rfl (qb (qaA qc h hF ⟨rfl, trivial⟩)))

def qdO (n : Nat) (a_e : qg) (v0 : (Option Tview)) : Option Bool :=
 (qdy n v0 a_e).bind fun r1 =>
 some (!r1)

theorem qjo {n : Nat} {w : World} {a_e : qg} {v0 : (Option Tview)} {cs1 : List Value} (ha1 : GoT.R w (old w) a_e cs1) {p4 : Option Addr} (ha2 : GoT.R w (old w) (some v0) [.pointer p4]) {r : Bool} (hF : qdO n a_e v0 = some r) : RetV Tryz.prog 110 [GoT.v qg cs1, .pointer p4] w r := by
 obtain ⟨p1, k1, p2, k2, p3, k3, rfl, s1, s2, s3⟩ := qac ha1
 obtain ⟨b1, o_1, cs2, rfl, -, hr1, hc1⟩ := PtR.get ha2 rfl
 obtain ⟨p5, rfl, s4⟩ := qhn hr1
 refine qe Tryz.func110 rfl (m := 8) rfl rfl (fun h => ?_)
 rw [qdO] at hF
 refine zSR (qN h rfl rfl ?_)
 intro w1 bb1 h
 refine zp1 rfl (zNSR (zc 0 (hc1.below h.below) rfl (zl 0 0 h rfl ?_)))
 obtain ⟨r1, hr2, hF⟩ := qd hF
 refine qp r1 h call111 (qjf (h.old s4) (h.old ha1) hr2) rfl rfl rfl rfl ?_
 intro w2 h
 exact zp2 rfl (qb (qy qc h hF ⟨rfl, trivial⟩))

def qI (s : (List qg)) (f_0 : (Option Tview)) : Nat → Int → Option (Flow Int Int)
 | 0, _ => none
 | n + 1, i1 =>
  bif decide (i1 < (s.length : Int)) then
   (idx s i1).bind fun y1 =>
   (qdO n y1 f_0).bind fun r1 =>
   bif r1 then
    some (.ret i1)
   else
    qI s f_0 n (W64 (i1 + 1))
  else
   some (.nxt i1)

def qax (n : Nat) (s : (List qg)) (f_0 : (Option Tview)) : Option Int :=
 (qI s f_0 n 0).bind fun o => match o with
 | .ret r => some r
 | .nxt _ =>
  some (-1)

theorem qd7 {n : Nat} {w : World} {s : (List qg)} {f_0 : (Option Tview)} {cs1 : List Value} (ha1 : GoT.R w (old w) s cs1) {p2 : Option Addr} (ha2 : GoT.R w (old w) (some f_0) [.pointer p2]) {r : Int} (hF : qax n s f_0 = some r) : RetV Tryz.prog 129 [GoT.v (List qg) cs1, .func (.func 110) #[] #[.pointer p2]] w r := by
 obtain ⟨p1, k1, rfl, s1⟩ := ha1
 obtain ⟨b1, o_1, cs2, rfl, -, hr1, hc1⟩ := PtR.get ha2 rfl
 obtain ⟨p3, rfl, s2⟩ := qhn hr1
 refine qe Tryz.func129 rfl (m := 19) rfl rfl (fun h => ?_)
 rw [qax] at hF
 refine zSR (zp1 rfl (zNSSR (zp3 rfl (qb ?_))))
 obtain ⟨o1, hF, hK1⟩ := qd hF
 refine qw (qP [(0, _), (1, _), (7, _), (8, _)] ⟨rfl, rfl, rfl, rfl, trivial⟩ ?_)
 refine qH (fun m e w' => ∃ (i1 : Int), qI s f_0 m i1 = some o1 ∧ e = [(0, .slice p1 s.length k1), (1, .func (.func 110) #[] #[.pointer (some ⟨b1, o_1, none⟩)]), (7, .int .i64 (s.length : Int)), (8, .int .i64 i1)] ∧ SH w w' []) n ⟨_, hF, rfl, h⟩ ?_
 rintro m1 e1 w1 ⟨i1, hF, rfl, h⟩
 rcases m1 with _ | m1
 ·rw [qI] at hF
  cases hF
 rw [qI] at hF
 refine zSR (zp1 rfl (zNS ?_))
 refine qr rfl hF ?_ ?_ <;> intro hF
 ·refine zKSBSR (zp2 rfl (zNSR (zp2 rfl ?_)))
  refine zp1 rfl ?_
  obtain ⟨y1, hy1, hF⟩ := qd hF
  have he1 := qf hy1
  obtain ⟨b2, o_2, q1, cs3, hp1, hq1, -, hr2, hc3⟩ := s1.at hy1
  obtain ⟨p4, k2, p5, k3, p6, k4, rfl, s3, s4, s5⟩ := qac hr2
  refine zxe hp1 hq1 he1 rfl (zc 0 (hc3.below h.below) rfl ?_)
  obtain ⟨r1, hr3, hF⟩ := qd hF
  refine qp r1 h call110 (qjo (qdS y1 (h.oldS s3) (h.oldS s4) (h.oldS s5)) (h.old ha2) hr3) rfl rfl rfl rfl ?_
  intro w2 h
  refine qb ?_
  refine qr rfl hF ?_ ?_ <;> intro hF
  ·refine zSR (zp2 rfl (qb ?_))
   obtain rfl := qh hF; replace hF := hK1
   exact qaA qc h hF ⟨rfl, trivial⟩
  exact zKER (zp2 rfl (qb (qA m1 [(0, _), (1, _), (7, _), (8, _)] (Nat.lt_succ_self m1) ⟨rfl, rfl, rfl, rfl, trivial⟩ ⟨_, hF, rfl, h⟩)))
 refine qG rfl ?_
 obtain rfl := qh hF; replace hF := hK1
 exact zSR (zp1 rfl (qb (qaA qc h hF ⟨rfl, trivial⟩)))

def qZ (n : Nat) (s : (List qg)) (f_0 : (Option Tview)) : Option Bool :=
 (qax n s f_0).bind fun r1 =>
 some (decide (r1 ≥ 0))

theorem qdD {n : Nat} {w : World} {s : (List qg)} {f_0 : (Option Tview)} {cs1 : List Value} (ha1 : GoT.R w (old w) s cs1) {p2 : Option Addr} (ha2 : GoT.R w (old w) (some f_0) [.pointer p2]) {r : Bool} (hF : qZ n s f_0 = some r) : RetV Tryz.prog 90 [GoT.v (List qg) cs1, .func (.func 110) #[] #[.pointer p2]] w r := by
 obtain ⟨p1, k1, rfl, s1⟩ := ha1
 obtain ⟨b1, o_1, cs2, rfl, -, hr1, hc1⟩ := PtR.get ha2 rfl
 obtain ⟨p3, rfl, s2⟩ := qhn hr1
 refine qe Tryz.func90 rfl (m := 9) rfl rfl (fun h => ?_)
 rw [qZ] at hF
 refine zSR (zp1 rfl (zNSR (zp2 rfl ?_)))
 obtain ⟨r1, hr2, hF⟩ := qd hF
 refine qR r1 h call129 (qd7 ⟨_, _, rfl, (h.oldS s1)⟩ (h.old ha2) hr2) rfl rfl rfl rfl ?_
 intro w1 h
 exact zp2 rfl (qb (qy qc h hF ⟨rfl, trivial⟩))

def qeD (n : Nat) (b : qz) (list : (List qg)) : Option ((Option Tview) × Int) :=
 (qhu n b).bind fun r1 =>
 bif (!r1) then
  some (none, 1)
 else
  bif decide ((list.length : Int) > 6) then
   some (none, 3)
  else
   (qhN n b).bind fun r2 =>
   (qZ n list r2).bind fun r3 =>
   bif r3 then
    some (none, 5)
   else
    some (r2, 0)

theorem qj1 {n : Nat} {w : World} {A : Nat → Prop} (hA : ∀ b, A b → old w b) {b : qz} {list : (List qg)} {cs1 : List Value} (ha1 : GoT.R w A b cs1) {cs2 : List Value} (ha2 : GoT.R w A list cs2) {r : ((Option Tview) × Int)} (hF : qeD n b list = some r) : RetG Tryz.prog 66 [GoT.v qz cs1, GoT.v (List qg) cs2] w A r := by
 obtain ⟨p1, k1, p2, k2, p3, k3, p4, k4, p5, k5, rfl, s1, s2, s3, s4, s5⟩ := qaq ha1
 obtain ⟨p6, k6, rfl, s6⟩ := ha2
 have hg := Rg.start hA
 refine qja Tryz.func66 rfl (m := 21) rfl rfl (fun h => ?_)
 rw [qeD] at hF
 refine zSR (qN h rfl rfl ?_)
 intro w1 bb1 h
 refine zp2 rfl (zNSB (zSR (zl 0 0 h rfl ?_)))
 obtain ⟨r1, hr1, hF⟩ := qd hF
 refine qp r1 h call108 (qmd (h.old (GoT.mono ha1 hg.old)) hr1) rfl rfl rfl rfl ?_
 intro w2 h
 refine zp2 rfl (qb ?_)
 refine qr rfl hF ?_ ?_ <;> intro hF
 ·refine zSR (zp2 rfl (qb ?_))
  obtain rfl := qh hF
  have hv1 : GoRs.Rs (ρ := ((Option Tview) × Int)) h.wc (reg A w h.wc) (none, 1) [GoT.v (Option Tview) [.pointer none], GoT.v Int [.int .i64 1]] := ⟨_, _, rfl, rfl, ⟨_, rfl, rfl⟩⟩
  exact qkU qc (ρ := ((Option Tview) × Int)) (r := (none, 1)) [GoT.v (Option Tview) [.pointer none], GoT.v Int [.int .i64 1]] h ⟨rfl, rfl, trivial⟩ hv1
 refine zSR (zp4 rfl (qb ?_))
 refine qr rfl hF ?_ ?_ <;> intro hF
 ·refine zSR (zp2 rfl (qb ?_))
  obtain rfl := qh hF
  have hv2 : GoRs.Rs (ρ := ((Option Tview) × Int)) h.wc (reg A w h.wc) (none, 3) [GoT.v (Option Tview) [.pointer none], GoT.v Int [.int .i64 3]] := ⟨_, _, rfl, rfl, ⟨_, rfl, rfl⟩⟩
  exact qkU qc (ρ := ((Option Tview) × Int)) (r := (none, 3)) [GoT.v (Option Tview) [.pointer none], GoT.v Int [.int .i64 3]] h ⟨rfl, rfl, trivial⟩ hv2
 refine zKE (zSR (zl 0 0 h rfl ?_))
 obtain ⟨r2, hr2, hF⟩ := qd hF
 refine qqm r2 hg h call109 (qmg (hg.regOld h) (hg.inR h ha1) hr2) rfl rfl rfl rfl ?_
 intro w3 us1 B1 hg1 hu1 hz1 hv3
 have hL1 := h.ext hu1.below
 have s7 := Up.S hg h hu1 s6
 have hb1 := h.below.trans (hu1.below.mono h.below.size)
 replace h := hz1
 obtain ⟨cs3, rfl, hr3⟩ := qlH hv3
 obtain ⟨p7, rfl, s8⟩ := qhn hr3
 refine qaa qc h rfl rfl rfl ?_
 intro w4 bb2 h
 refine zs 0 h rfl ?_
 intro w5 h
 refine zNSSR (zp2 rfl ?_)
 obtain ⟨r3, hr4, hF⟩ := qd hF
 refine qp r3 h call90 (qdD ⟨_, _, rfl, (h.oldS (s7.mono hg1.old))⟩ (qiu (x := r2) 0 h rfl (h.old (GoT.mono s8 hg1.old))) hr4) rfl rfl rfl rfl ?_
 intro w6 h
 refine qb ?_
 refine qr rfl hF ?_ ?_ <;> intro hF
 ·refine zSR (zp2 rfl (qb ?_))
  obtain rfl := qh hF
  have hv4 : GoRs.Rs (ρ := ((Option Tview) × Int)) h.wc (reg A w h.wc) (none, 5) [GoT.v (Option Tview) [.pointer none], GoT.v Int [.int .i64 5]] := ⟨_, _, rfl, rfl, ⟨_, rfl, rfl⟩⟩
  exact qkU qc (ρ := ((Option Tview) × Int)) (r := (none, 5)) [GoT.v (Option Tview) [.pointer none], GoT.v Int [.int .i64 5]] (h.unbase hg1.below ⟨fun _ h => h, trivial⟩) ⟨rfl, rfl, trivial⟩ hv4
 refine zKSR (zl 0 0 h rfl (zp2 rfl (qb ?_)))
 obtain rfl := qh hF
 have hv5 : GoRs.Rs (ρ := ((Option Tview) × Int)) h.wc (reg A w h.wc) (r2, 0) [GoT.v (Option Tview) [.pointer p7], GoT.v Int [.int .i64 0]] := ⟨_, _, rfl, (hg1.outR h (hg1.inR h s8)), ⟨_, rfl, rfl⟩⟩
 exact qkU qc (ρ := ((Option Tview) × Int)) (r := (r2, 0)) [GoT.v (Option Tview) [.pointer p7], GoT.v Int [.int .i64 0]] (h.unbase hg1.below ⟨fun _ h => h, trivial⟩) ⟨rfl, rfl, trivial⟩ hv5

def qcb (list : (List qg)) (tag : (List Int)) (place : Int) : Nat → (List Int) → Int → Option ((List Int) × Int)
 | 0, _, _ => none
 | n + 1, x1, i1 =>
  bif decide (i1 < (list.length : Int)) then
   (idx tag i1).bind fun y1 =>
   (
    bif decide (y1 ≥ 0) then
     (idx list i1).bind fun y2 =>
     bif decide (y1 < (y2.Through.length : Int)) then
      (idx list i1).bind fun y3 =>
      (idx y3.Through y1).bind fun y4 =>
      some (y4 == place)
     else
      some false
    else
     some false).bind fun b2 =>
   bif b2 then
    (appS x1 ([W64 (y1 + 1)] : List Int)).bind fun x2 =>
    qcb list tag place n x2 (W64 (i1 + 1))
   else
    (appS x1 ([y1] : List Int)).bind fun x3 =>
    qcb list tag place n x3 (W64 (i1 + 1))
  else
   some (x1, i1)

def qgw (n : Nat) (list : (List qg)) (tag : (List Int)) (place : Int) : Option (List Int) :=
 (qcb list tag place n ([] : List Int) 0).bind fun o => match o with
 | (x1, _) =>
  some x1

theorem qjV {n : Nat} {w : World} {list : (List qg)} {tag : (List Int)} {place : Int} {cs1 : List Value} (ha1 : GoT.R w (old w) list cs1) {cs2 : List Value} (ha2 : GoT.R w (old w) tag cs2) {r : (List Int)} (hF : qgw n list tag place = some r) : RetV Tryz.prog 55 [GoT.v (List qg) cs1, GoT.v (List Int) cs2, .int .i64 place] w r := by
 obtain ⟨p1, k1, rfl, s1⟩ := ha1
 obtain ⟨p2, k2, rfl, s2⟩ := ha2
 refine qe Tryz.func55 rfl (m := 52) rfl rfl (fun h => ?_)
 rw [qgw] at hF
 refine zSR (zp1 rfl (zNSR (qaz qc [] _ ([] : List Int) h rfl rfl rfl rfl rfl rfl rfl rfl rfl trivial rfl ?_)))
 intro w1 p3 S1 h
 refine zp1 rfl (zNSSR (zp1 rfl (qb ?_)))
 obtain ⟨o1, hF, hK1⟩ := qd hF
 refine qw (qP [(0, _), (1, _), (2, _), (7, _), (8, _)] ⟨rfl, rfl, rfl, rfl, rfl, trivial⟩ ?_)
 refine qH (fun m e w' => ∃ (S2 : Nat → Prop) (p4 : Option Addr) (ln1 : Nat) (k3 : Nat) (x1 : (List Int)) (i1 : Int), qcb list tag place m x1 i1 = some o1 ∧ e = [(0, .slice p1 list.length k1), (1, .slice p2 tag.length k2), (2, .int .i64 place), (7, .slice p4 ln1 k3), (8, .int .i64 i1)] ∧ SH w w' [Ch.own S2 (x1 : List Int) [.slice p4 ln1 k3]]) n ⟨_, _, _, _, _, _, hF, rfl, h⟩ ?_
 rintro m1 e1 w2 ⟨S2, p4, ln1, k3, x1, i1, hF, rfl, h⟩
 obtain rfl := (h.sl 0 rfl).2
 rcases m1 with _ | m1
 ·rw [qcb] at hF
  cases hF
 rw [qcb] at hF
 refine zSSR (zp4 rfl (qb ?_))
 refine qr rfl hF ?_ ?_ <;> intro hF
 ·refine zKSBSR (zp2 rfl ?_)
  obtain ⟨y1, hy1, hF⟩ := qd hF
  have he1 := qf hy1
  obtain ⟨b1, o_1, q1, cs3, hp1, hq1, -, hr1, hc2⟩ := s2.at hy1
  obtain rfl := hr1
  refine zxe hp1 hq1 he1 rfl (zc 0 (hc2.below h.below) rfl (zp1 rfl (zNSS ?_)))
  obtain ⟨KF1, hKF1, o2, hF, hK2⟩ := bindE hF
  refine qek (fun e w' => ∃ (b2 : Bool), KF1 b2 = some o1 ∧ e = [(0, .slice p1 list.length k1), (1, .slice p2 tag.length k2), (2, .int .i64 place), (7, .slice p4 x1.length k3), (8, .int .i64 i1), (9, .int .i64 y1), (44, .bool b2)] ∧ SH w w' [Ch.own S2 (x1 : List Int) [.slice p4 x1.length k3]]) ?_ ?_
  ·refine qB (zp3 rfl ?_)
   by_cases hc4 : (decide (y1 ≥ 0)) = true
   ·replace hF := bifT hc4 hF
    refine qE hc4 (t := 23) rfl (qa rfl (zp1 rfl (qa rfl (zp1 rfl (qa rfl (zp1 rfl (qa rfl ?_)))))))
    obtain ⟨y2, hy2, hF⟩ := qd hF
    have he2 := qf hy2
    obtain ⟨b3, o_2, q2, cs4, hp2, hq2, -, hr2, hc5⟩ := s1.at hy2
    obtain ⟨p9, k6, p10, k7, p11, k8, rfl, s3, s4, s5⟩ := qac hr2
    refine zxe hp2 hq2 he2 rfl (qa rfl (zp1 rfl (qa rfl (zc 3 (hc5.below h.below) rfl (qa rfl (zp1 rfl (qa rfl (zp3 rfl ?_))))))))
    by_cases hc6 : (decide (y1 < (y2.Through.length : Int))) = true
    ·replace hF := bifT hc6 hF
     refine qE hc6 (t := 33) rfl (qa rfl (zp1 rfl (qa rfl (zp1 rfl (qa rfl ?_)))))
     obtain ⟨y3, hy3, hF⟩ := qd hF
     have he3 := qf hy3
     obtain ⟨b4, o_3, q3, cs5, hp3, hq3, -, hr3, hc7⟩ := s1.at hy3
     obtain ⟨p12, k9, p13, k10, p14, k11, rfl, s6, s7, s8⟩ := qac hr3
     refine zxe hp3 hq3 he3 rfl (qa rfl (zp1 rfl (qa rfl (zc 3 (hc7.below h.below) rfl (qa rfl (zp1 rfl (qa rfl ?_)))))))
     obtain ⟨y4, hy4, hF⟩ := qd hF
     have he4 := qf hy4
     obtain ⟨b5, o_4, q4, cs6, hp4, hq4, -, hr4, hc8⟩ := s7.at hy4
     obtain rfl := hr4
     refine zxe hp4 hq4 he4 rfl (qa rfl (zc 0 (hc8.below h.below) rfl (qa rfl (zp1 rfl (qa rfl (zp2 rfl (qb ?_)))))))
     obtain rfl := qh hF
     exact qx [(0, _), (1, _), (2, _), (7, _), (8, _), (9, _), (44, _)] ⟨rfl, rfl, rfl, rfl, rfl, rfl, rfl, trivial⟩ ⟨_, hK2, rfl, h⟩
    replace hc6 := zb hc6
    replace hF := bifF hc6 hF
    refine qD hc6 (t := 33) rfl (zn5 rfl (zn5 rfl (zp1 rfl ?_)))
    refine qb ?_
    obtain rfl := qh hF
    exact qx [(0, _), (1, _), (2, _), (7, _), (8, _), (9, _), (44, _)] ⟨rfl, rfl, rfl, rfl, rfl, rfl, rfl, trivial⟩ ⟨_, hK2, rfl, h⟩
   replace hc4 := zb hc4
   replace hF := bifF hc4 hF
   refine qD hc4 (t := 23) rfl (zn5 rfl (zn3 rfl (zp2 rfl (zn1 rfl ?_))))
   refine zn5 rfl (zn4 rfl (zp1 rfl (qb ?_)))
   obtain rfl := qh hF
   exact qx [(0, _), (1, _), (2, _), (7, _), (8, _), (9, _), (44, _)] ⟨rfl, rfl, rfl, rfl, rfl, rfl, rfl, trivial⟩ ⟨_, hK2, rfl, h⟩
  rintro e2 w7 ⟨b2, hF, rfl, h⟩
  subst hKF1
  refine qr rfl hF ?_ ?_ <;> intro hF
  ·refine qB (zp3 rfl (qb (qB (zp2 rfl (qaz qc [.tmp 48] _ ([W64 (y1 + 1)] : List Int) h rfl rfl rfl rfl rfl rfl rfl rfl rfl ⟨rfl, trivial⟩ rfl ?_)))))
   intro w3 p5 S3 h
   obtain ⟨x2, hx1, hF⟩ := qd hF
   obtain ⟨g1, hx1⟩ := qa6 hx1
   refine qee qc 1 h rfl (h.sl 0 rfl).1 (h.sl 0 rfl).2 rfl rfl rfl rfl rfl rfl rfl rfl rfl g1 hx1 rfl ?_
   intro w4 p6 k4 S4 h
   refine zp1 rfl (zNER (zp3 rfl (qb ?_)))
   replace h := h.pick [1] rfl
   exact qA m1 [(0, _), (1, _), (2, _), (7, _), (8, _)] (Nat.lt_succ_self m1) ⟨rfl, rfl, rfl, rfl, rfl, trivial⟩ ⟨_, _, _, _, _, _, hF, rfl, h⟩
  refine qdX (qB (zp2 rfl (qaz qc [.tmp 48] _ ([y1] : List Int) h rfl rfl rfl rfl rfl rfl rfl rfl rfl ⟨rfl, trivial⟩ rfl ?_)))
  intro w5 p7 S5 h
  obtain ⟨x3, hx2, hF⟩ := qd hF
  obtain ⟨g2, hx2⟩ := qa6 hx2
  refine qee qc 1 h rfl (h.sl 0 rfl).1 (h.sl 0 rfl).2 rfl rfl rfl rfl rfl rfl rfl rfl rfl g2 hx2 rfl ?_
  intro w6 p8 k5 S6 h
  refine zp1 rfl (zNER (zp3 rfl (qb ?_)))
  replace h := h.pick [1] rfl
  exact qA m1 [(0, _), (1, _), (2, _), (7, _), (8, _)] (Nat.lt_succ_self m1) ⟨rfl, rfl, rfl, rfl, rfl, trivial⟩ ⟨_, _, _, _, _, _, hF, rfl, h⟩
 refine qG rfl ?_
 obtain rfl := qh hF; replace hF := hK1
 refine zSR (zp2 rfl (qb ?_))
 obtain rfl := qh hF
 exact qaj qc (ρ := (List Int)) [GoT.v (List Int) [.slice p4 x1.length k3]] h ⟨rfl, trivial⟩ (PV.done h (qap (qad 0 h rfl)))

def qbO (list : (List qg)) (place : Int) : Nat → (List Int) → Int → Option ((List Int) × Int)
 | 0, _, _ => none
 | n + 1, x1, i1 =>
  bif decide (i1 < (list.length : Int)) then
   (
    (idx list i1).bind fun y1 =>
    bif decide ((y1.From.length : Int) > 0) then
     (idx list i1).bind fun y2 =>
     (qg6 n y2.From place).bind fun r1 =>
     some (decide (r1 < 0))
    else
     some false).bind fun b1 =>
   bif b1 then
    (appS x1 ([(-1)] : List Int)).bind fun x2 =>
    qbO list place n x2 (W64 (i1 + 1))
   else
    (appS x1 ([0] : List Int)).bind fun x3 =>
    qbO list place n x3 (W64 (i1 + 1))
  else
   some (x1, i1)

def qgT (n : Nat) (list : (List qg)) (place : Int) : Option (List Int) :=
 (qbO list place n ([] : List Int) 0).bind fun o => match o with
 | (x1, _) =>
  (qgw n list x1 place).bind fun r2 =>
  some r2

theorem qlQ {n : Nat} {w : World} {list : (List qg)} {place : Int} {cs1 : List Value} (ha1 : GoT.R w (old w) list cs1) {r : (List Int)} (hF : qgT n list place = some r) : RetV Tryz.prog 60 [GoT.v (List qg) cs1, .int .i64 place] w r := by
 obtain ⟨p1, k1, rfl, s1⟩ := ha1
 refine qe Tryz.func60 rfl (m := 40) rfl rfl (fun h => ?_)
 rw [qgT] at hF
 refine zSR (zp1 rfl (zNSR (qaz qc [] _ ([] : List Int) h rfl rfl rfl rfl rfl rfl rfl rfl rfl trivial rfl ?_)))
 intro w1 p2 S1 h
 refine zp1 rfl (zNSSR (zp1 rfl (qb ?_)))
 obtain ⟨o1, hF, hK1⟩ := qd hF
 refine qw (qP [(0, _), (1, _), (5, _), (6, _)] ⟨rfl, rfl, rfl, rfl, trivial⟩ ?_)
 refine qH (fun m e w' => ∃ (S2 : Nat → Prop) (p3 : Option Addr) (ln1 : Nat) (k2 : Nat) (x1 : (List Int)) (i1 : Int), qbO list place m x1 i1 = some o1 ∧ e = [(0, .slice p1 list.length k1), (1, .int .i64 place), (5, .slice p3 ln1 k2), (6, .int .i64 i1)] ∧ SH w w' [Ch.own S2 (x1 : List Int) [.slice p3 ln1 k2]]) n ⟨_, _, _, _, _, _, hF, rfl, h⟩ ?_
 rintro m1 e1 w2 ⟨S2, p3, ln1, k2, x1, i1, hF, rfl, h⟩
 obtain rfl := (h.sl 0 rfl).2
 rcases m1 with _ | m1
 ·rw [qbO] at hF
  cases hF
 rw [qbO] at hF
 refine zSSR (zp4 rfl (qb ?_))
 refine qr rfl hF ?_ ?_ <;> intro hF
 ·refine zKSBSR (zp1 rfl (zNSS ?_))
  obtain ⟨KF1, hKF1, o2, hF, hK2⟩ := bindE hF
  refine qek (fun e w' => ∃ (b1 : Bool), KF1 b1 = some o1 ∧ e = [(0, .slice p1 list.length k1), (1, .int .i64 place), (5, .slice p3 x1.length k2), (6, .int .i64 i1), (7, .int .i64 0), (31, .bool b1)] ∧ SH w w' [Ch.own S2 (x1 : List Int) [.slice p3 x1.length k2]]) ?_ ?_
  ·refine qB (zp2 rfl ?_)
   obtain ⟨y1, hy1, hF⟩ := qd hF
   have he1 := qf hy1
   obtain ⟨b2, o_1, q1, cs2, hp1, hq1, -, hr1, hc3⟩ := s1.at hy1
   obtain ⟨p8, k5, p9, k6, p10, k7, rfl, s2, s3, s4⟩ := qac hr1
   refine zxe hp1 hq1 he1 rfl (zp1 rfl (zc 2 (hc3.below h.below) rfl (zp3 rfl ?_)))
   by_cases hc4 : (decide ((y1.From.length : Int) > 0)) = true
   ·replace hF := bifT hc4 hF
    refine qE hc4 (t := 22) rfl (qa rfl (zp1 rfl (qa rfl (zp1 rfl (qa rfl ?_)))))
    obtain ⟨y2, hy2, hF⟩ := qd hF
    have he2 := qf hy2
    obtain ⟨b3, o_2, q2, cs3, hp2, hq2, -, hr2, hc5⟩ := s1.at hy2
    obtain ⟨p11, k8, p12, k9, p13, k10, rfl, s5, s6, s7⟩ := qac hr2
    refine zxe hp2 hq2 he2 rfl (qa rfl (zp1 rfl (qa rfl (zc 2 (hc5.below h.below) rfl (qa rfl (zp1 rfl (qa rfl ?_)))))))
    obtain ⟨r1, hr3, hF⟩ := qd hF
    refine qR r1 h call79 (qkk ⟨_, _, rfl, (h.oldS s5)⟩ hr3) rfl rfl rfl rfl ?_
    intro w7 h
    refine qa rfl (zp2 rfl (qb ?_))
    obtain rfl := qh hF
    exact qx [(0, _), (1, _), (5, _), (6, _), (7, _), (31, _)] ⟨rfl, rfl, rfl, rfl, rfl, rfl, trivial⟩ ⟨_, hK2, rfl, h⟩
   replace hc4 := zb hc4
   replace hF := bifF hc4 hF
   refine qD hc4 (t := 22) rfl (zn5 rfl (zn3 rfl (zp1 rfl (qb ?_))))
   obtain rfl := qh hF
   exact qx [(0, _), (1, _), (5, _), (6, _), (7, _), (31, _)] ⟨rfl, rfl, rfl, rfl, rfl, rfl, trivial⟩ ⟨_, hK2, rfl, h⟩
  rintro e2 w8 ⟨b1, hF, rfl, h⟩
  subst hKF1
  refine qr rfl hF ?_ ?_ <;> intro hF
  ·refine qB (zp1 rfl (qb (qB (zp2 rfl (qaz qc [.tmp 33] _ ([(-1)] : List Int) h rfl rfl rfl rfl rfl rfl rfl rfl rfl ⟨rfl, trivial⟩ rfl ?_)))))
   intro w3 p4 S3 h
   obtain ⟨x2, hx1, hF⟩ := qd hF
   obtain ⟨g1, hx1⟩ := qa6 hx1
   refine qee qc 1 h rfl (h.sl 0 rfl).1 (h.sl 0 rfl).2 rfl rfl rfl rfl rfl rfl rfl rfl rfl g1 hx1 rfl ?_
   intro w4 p5 k3 S4 h
   refine zp1 rfl (zNER (zp3 rfl (qb ?_)))
   replace h := h.pick [1] rfl
   exact qA m1 [(0, _), (1, _), (5, _), (6, _)] (Nat.lt_succ_self m1) ⟨rfl, rfl, rfl, rfl, trivial⟩ ⟨_, _, _, _, _, _, hF, rfl, h⟩
  refine qdX (qB (zp2 rfl (qaz qc [.tmp 33] _ ([0] : List Int) h rfl rfl rfl rfl rfl rfl rfl rfl rfl ⟨rfl, trivial⟩ rfl ?_)))
  intro w5 p6 S5 h
  obtain ⟨x3, hx2, hF⟩ := qd hF
  obtain ⟨g2, hx2⟩ := qa6 hx2
  refine qee qc 1 h rfl (h.sl 0 rfl).1 (h.sl 0 rfl).2 rfl rfl rfl rfl rfl rfl rfl rfl rfl g2 hx2 rfl ?_
  intro w6 p7 k4 S6 h
  refine zp1 rfl (zNER (zp3 rfl (qb ?_)))
  replace h := h.pick [1] rfl
  exact qA m1 [(0, _), (1, _), (5, _), (6, _)] (Nat.lt_succ_self m1) ⟨rfl, rfl, rfl, rfl, trivial⟩ ⟨_, _, _, _, _, _, hF, rfl, h⟩
 refine qG rfl ?_
 obtain rfl := qh hF; replace hF := hK1
 refine zSR (zp3 rfl ?_)
 obtain ⟨r2, hr4, hF⟩ := qd hF
 refine qai r2 h call55 (qjV ⟨_, _, rfl, (h.oldS s1)⟩ (h.own 0 rfl) hr4) rfl rfl rfl rfl ?_
 intro w9 S7 p14 k11 h
 refine zp1 rfl (qb ?_)
 obtain rfl := qh hF
 exact qaj qc (ρ := (List Int)) [GoT.v (List Int) [.slice p14 r2.length k11]] h ⟨rfl, trivial⟩ (PV.done h (qap (qad 0 h rfl)))

def qbL (a : (List Int)) : Nat → (List Int) → Int → Int → Option ((List Int) × Int × Int)
 | 0, _, _, _ => none
 | n + 1, x1, i1, i2 =>
  bif decide (i2 < (a.length : Int)) then
   (idx x1 i2).bind fun _ =>
   qbL a n (setS x1 i2 i1) (W64 (i1 + 1)) (W64 (i2 + 1))
  else
   some (x1, i1, i2)

def qar (n : Nat) (a : (List Int)) (k : Int) : Option (Int × (List Int)) :=
 (qbL a n a k 0).bind fun o => match o with
 | (x1, i1, _) =>
  some (i1, x1)

theorem qau {n : Nat} {w0 w : World} {F : List Ch} {a : (List Int)} {k : Int} {S1 : Nat → Prop} {p1 : Option Addr} {ln1 k1 : Nat} (h : SH w0 w (Ch.own S1 (a : List Int) [.slice p1 ln1 k1] :: F)) {r : (Int × (List Int))} (hF : qar n a k = some r) : RetN Tryz.prog 24 [.slice p1 ln1 k1, .int .i64 k] w (fun w' => ∃ Z0 : Nat → Prop, SH w0 w' (Ch.own Z0 (r.2 : List Int) [.slice p1 ln1 k1] :: F)) r.1 := by
 refine qcQ Tryz.func24 rfl (m := 19) rfl rfl ?_
 rw [qar] at hF
 obtain rfl := (h.sl 0 rfl).2
 refine zSR (zp1 rfl (zNSSR (zp1 rfl (qb ?_))))
 obtain ⟨o1, hF, hK1⟩ := qd hF
 refine qw (qP [(0, _), (1, _), (5, _)] ⟨rfl, rfl, rfl, trivial⟩ ?_)
 refine qH (fun m e w' => ∃ (x1 : (List Int)) (i1 : Int) (i2 : Int), qbL a m x1 i1 i2 = some o1 ∧ e = [(0, .slice p1 a.length k1), (1, .int .i64 i1), (5, .int .i64 i2)] ∧ SH w0 w' (Ch.own S1 (x1 : List Int) [.slice p1 a.length k1] :: F)) n ⟨_, _, _, hF, rfl, h⟩ ?_
 rintro m1 e1 w1 ⟨x1, i1, i2, hF, rfl, h⟩
 rcases m1 with _ | m1
 ·rw [qbL] at hF
  cases hF
 rw [qbL] at hF
 refine zSSR (zp4 rfl (qb ?_))
 refine qr rfl hF ?_ ?_ <;> intro hF
 ·refine zKSBSR (zp3 rfl ?_)
  obtain ⟨y1, hy1, hF⟩ := qd hF
  have he1 := qf hy1
  obtain ⟨b1, o_1, q1, cs1, hp1, hq1, -, hr1, hc2⟩ := (h.sl 0 rfl).1.at hy1
  obtain rfl := hr1
  refine zx hp1 hq1 ⟨he1.1, qae he1.2.1 (h.sl 0 rfl).2⟩ rfl (qdj qc 0 0 i1 h rfl hy1 hp1 hq1 rfl hc2 rfl rfl rfl rfl rfl rfl rfl ?_)
  intro w2 h
  refine qb (qB (zp3 rfl (zNER (zp3 rfl (qb ?_)))))
  exact qA m1 [(0, _), (1, _), (5, _)] (Nat.lt_succ_self m1) ⟨rfl, rfl, rfl, trivial⟩ ⟨_, _, _, hF, rfl, h⟩
 refine qG rfl ?_
 obtain rfl := qh hF; replace hF := hK1
 refine zSR (zp2 rfl (qb ?_))
 obtain rfl := qh hF
 exact qhT qc ⟨_, h⟩ ⟨rfl, trivial⟩

def qdG : Nat → Int → ByteArray → Option (Int × ByteArray)
 | 0, _, _ => none
 | n + 1, i1, z1 =>
  bif decide (i1 > 0) then
   (catB (strOf ([(⟨IntKind.wrap .u8 (W64 (48 + (i1.tmod 10)))⟩ : IntK .u8)] : List (IntK .u8))) z1).bind fun z2 =>
   qdG n (W64 (i1.tdiv 10)) z2
  else
   some (i1, z1)

def qdM (n : Nat) (k : Int) : Option ByteArray :=
 bif decide (k ≤ 0) then
  some (⟨#[109, 48]⟩ : ByteArray)
 else
  (qdG n k (⟨#[]⟩ : ByteArray)).bind fun o => match o with
  | (_, z1) =>
   (catB (⟨#[109]⟩ : ByteArray) z1).bind fun z3 =>
   some z3

theorem qfv {n : Nat} {w : World} {k : Int}  {r : ByteArray} (hF : qdM n k = some r) : RetV Tryz.prog 133 [.int .i64 k] w r := by
 refine qe Tryz.func133 rfl (m := 20) rfl rfl (fun h => ?_)
 rw [qdM] at hF
 refine zSR (zp1 rfl (zNSSR (zp2 rfl (qb ?_))))
 refine qr rfl hF ?_ ?_ <;> intro hF
 ·refine zSR (zp1 rfl (qb ?_))
  obtain rfl := qh hF
  exact qaj qc (ρ := ByteArray) [_] h ⟨rfl, trivial⟩ (qpM _ _)
 refine zKSR (zp1 rfl (zNS ?_))
 obtain ⟨o1, hF, hK1⟩ := qd hF
 refine qw (qP [(0, _), (3, _)] ⟨rfl, rfl, trivial⟩ ?_)
 refine qH (fun m e w' => ∃ (i1 : Int) (z1 : ByteArray), qdG m i1 z1 = some o1 ∧ e = [(0, .int .i64 i1), (3, .string z1)] ∧ SH w w' []) n ⟨_, _, hF, rfl, h⟩ ?_
 rintro m1 e1 w1 ⟨i1, z1, hF, rfl, h⟩
 rcases m1 with _ | m1
 ·rw [qdG] at hF
  cases hF
 rw [qdG] at hF
 refine zSSR (zp2 rfl (qb ?_))
 refine qr rfl hF ?_ ?_ <;> intro hF
 ·refine zKB (zSR (zp4 rfl (qaz qc [.tmp 11] _ ([(⟨IntKind.wrap .u8 (W64 (48 + (i1.tmod 10)))⟩ : IntK .u8)] : List (IntK .u8)) h rfl rfl rfl rfl rfl rfl rfl rfl rfl ⟨rfl, trivial⟩ rfl ?_)))
  intro w2 p1 S1 h
  refine r_v (qsi qc (h.sl 0 rfl).1 (h.sl 0 rfl).2 rfl ⟨rfl, rfl⟩ ⟨rfl, rfl⟩ rfl rfl) rfl (zp1 rfl ?_)
  obtain ⟨z2, hx1, hF⟩ := qd hF
  obtain ⟨g1, hx1⟩ := qnO hx1
  refine r_v (qsF g1 rfl rfl) rfl ?_
  rw [hx1]
  refine zp1 rfl (qb (qB (zp3 rfl (zNE ?_))))
  replace h := h.pick [] rfl
  exact qA m1 [(0, _), (3, _)] (Nat.lt_succ_self m1) ⟨rfl, rfl, trivial⟩ ⟨_, _, hF, rfl, h⟩
 refine qG rfl ?_
 obtain rfl := qh hF; replace hF := hK1
 refine zSR (zp1 rfl ?_)
 obtain ⟨z3, hx2, hF⟩ := qd hF
 obtain ⟨g2, hx2⟩ := qnO hx2
 refine r_v (qsF g2 rfl rfl) rfl ?_
 rw [hx2]
 refine zp1 rfl (qb ?_)
 obtain rfl := qh hF
 exact qaj qc (ρ := ByteArray) [_] h ⟨rfl, trivial⟩ (qpM _ _)

def qcY (a : (List qan)) : Nat → (List qan) → Int → Int → Option ((List qan) × Int × Int)
 | 0, _, _, _ => none
 | n + 1, x1, i1, i2 =>
  bif decide (i2 < (a.length : Int)) then
   (qdM n i1).bind fun r1 =>
   (idx x1 i2).bind fun y1 =>
   (idx (setS x1 i2 ({ y1 with Name := r1 })) i2).bind fun y2 =>
   (idx (setS (setS x1 i2 ({ y1 with Name := r1 })) i2 ({ y2 with Dir := W64 (i1 + 1) })) i2).bind fun y3 =>
   (idx (setS (setS (setS x1 i2 ({ y1 with Name := r1 })) i2 ({ y2 with Dir := W64 (i1 + 1) })) i2 ({ y3 with Cap := W64 ((W64 (i1 + 1)) + 1) })) i2).bind fun y4 =>
   qcY a n (setS (setS (setS (setS x1 i2 ({ y1 with Name := r1 })) i2 ({ y2 with Dir := W64 (i1 + 1) })) i2 ({ y3 with Cap := W64 ((W64 (i1 + 1)) + 1) })) i2 ({ y4 with Clock := (((W64 ((W64 ((W64 (i1 + 1)) + 1)) + 1)).tmod 3) == 0) })) (W64 ((W64 ((W64 ((W64 (i1 + 1)) + 1)) + 1)) + 1)) (W64 (i2 + 1))
  else
   some (x1, i1, i2)

def qif (n : Nat) (a : (List qan)) (k : Int) : Option (Int × (List qan)) :=
 (qcY a n a k 0).bind fun o => match o with
 | (x1, i1, _) =>
  some (i1, x1)

theorem qlz {n : Nat} {w0 w : World} {F : List Ch} {a : (List qan)} {k : Int} {S1 : Nat → Prop} {p1 : Option Addr} {ln1 k1 : Nat} (h : SH w0 w (Ch.own S1 (a : List qan) [.slice p1 ln1 k1] :: F)) {r : (Int × (List qan))} (hF : qif n a k = some r) : RetN Tryz.prog 134 [.slice p1 ln1 k1, .int .i64 k] w (fun w' => ∃ Z0 : Nat → Prop, SH w0 w' (Ch.own Z0 (r.2 : List qan) [.slice p1 ln1 k1] :: F)) r.1 := by
 refine qcQ Tryz.func134 rfl (m := 44) rfl rfl ?_
 rw [qif] at hF
 obtain rfl := (h.sl 0 rfl).2
 refine zSR (zp1 rfl (zNSSR (zp1 rfl (qb ?_))))
 obtain ⟨o1, hF, hK1⟩ := qd hF
 refine qw (qP [(0, _), (1, _), (5, _)] ⟨rfl, rfl, rfl, trivial⟩ ?_)
 refine qH (fun m e w' => ∃ (x1 : (List qan)) (i1 : Int) (i2 : Int), qcY a m x1 i1 i2 = some o1 ∧ e = [(0, .slice p1 a.length k1), (1, .int .i64 i1), (5, .int .i64 i2)] ∧ SH w0 w' (Ch.own S1 (x1 : List qan) [.slice p1 a.length k1] :: F)) n ⟨_, _, _, hF, rfl, h⟩ ?_
 rintro m1 e1 w1 ⟨x1, i1, i2, hF, rfl, h⟩
 rcases m1 with _ | m1
 ·rw [qcY] at hF
  cases hF
 rw [qcY] at hF
 refine zSSR (zp4 rfl (qb ?_))
 refine qr rfl hF ?_ ?_ <;> intro hF
 ·refine zKSBSR (zp3 rfl ?_)
  obtain ⟨r1, hr1, hF⟩ := qd hF
  refine qkA r1 h call133 (qfv hr1) rfl rfl rfl rfl ?_
  intro w2 h
  obtain ⟨y1, hy1, hF⟩ := qd hF
  have he1 := qf hy1
  obtain ⟨b1, o_1, q1, cs1, hp1, hq1, -, hr2, hc2⟩ := (h.sl 0 rfl).1.at hy1
  obtain rfl := qa5 hr2
  refine zx hp1 hq1 ⟨he1.1, qae he1.2.1 (h.sl 0 rfl).2⟩ rfl (zp1 rfl (qdj qc 0 0 ({ y1 with Name := r1 }) h rfl hy1 hp1 hq1 (qeg y1) hc2 rfl rfl rfl (qeg ({ y1 with Name := r1 })) rfl rfl rfl ?_))
  intro w3 h
  refine zNSR (zp3 rfl (zNSR (zp3 rfl ?_)))
  obtain ⟨y2, hy2, hF⟩ := qd hF
  have he2 := qf hy2
  obtain ⟨b2, o_2, q2, cs2, hp2, hq2, -, hr3, hc3⟩ := (h.sl 0 rfl).1.at hy2
  obtain rfl := qa5 hr3
  refine zx hp2 hq2 ⟨he2.1, qae he2.2.1 (h.sl 0 rfl).2⟩ rfl (zp1 rfl (qdj qc 0 1 ({ y2 with Dir := W64 (i1 + 1) }) h rfl hy2 hp2 hq2 (qeg y2) hc3 rfl rfl rfl (qeg ({ y2 with Dir := W64 (i1 + 1) })) rfl rfl rfl ?_))
  intro w4 h
  refine zNSR (zp3 rfl (zNSR (zp3 rfl ?_)))
  obtain ⟨y3, hy3, hF⟩ := qd hF
  have he3 := qf hy3
  obtain ⟨b3, o_3, q3, cs3, hp3, hq3, -, hr4, hc4⟩ := (h.sl 0 rfl).1.at hy3
  obtain rfl := qa5 hr4
  refine zx hp3 hq3 ⟨he3.1, qae he3.2.1 (h.sl 0 rfl).2⟩ rfl (zp1 rfl (qdj qc 0 2 ({ y3 with Cap := W64 ((W64 (i1 + 1)) + 1) }) h rfl hy3 hp3 hq3 (qeg y3) hc4 rfl rfl rfl (qeg ({ y3 with Cap := W64 ((W64 (i1 + 1)) + 1) })) rfl rfl rfl ?_))
  intro w5 h
  refine zNSR (zp3 rfl (zNSR (zp3 rfl ?_)))
  refine zp2 rfl ?_
  obtain ⟨y4, hy4, hF⟩ := qd hF
  have he4 := qf hy4
  obtain ⟨b4, o_4, q4, cs4, hp4, hq4, -, hr5, hc5⟩ := (h.sl 0 rfl).1.at hy4
  obtain rfl := qa5 hr5
  refine zx hp4 hq4 ⟨he4.1, qae he4.2.1 (h.sl 0 rfl).2⟩ rfl (zp1 rfl (qdj qc 0 3 ({ y4 with Clock := (((W64 ((W64 ((W64 (i1 + 1)) + 1)) + 1)).tmod 3) == 0) }) h rfl hy4 hp4 hq4 (qeg y4) hc5 rfl rfl rfl (qeg ({ y4 with Clock := (((W64 ((W64 ((W64 (i1 + 1)) + 1)) + 1)).tmod 3) == 0) })) rfl rfl rfl ?_))
  intro w6 h
  refine qb (qB (zp3 rfl (zNER (zp3 rfl (qb ?_)))))
  exact qA m1 [(0, _), (1, _), (5, _)] (Nat.lt_succ_self m1) ⟨rfl, rfl, rfl, trivial⟩ ⟨_, _, _, hF, rfl, h⟩
 refine qG rfl ?_
 obtain rfl := qh hF; replace hF := hK1
 refine zSR (zp2 rfl (qb ?_))
 obtain rfl := qh hF
 exact qhT qc ⟨_, h⟩ ⟨rfl, trivial⟩

def qb8 (a : (List qF)) : Nat → (List qF) → Int → Int → Option ((List qF) × Int × Int)
 | 0, _, _, _ => none
 | n + 1, x1, i1, i2 =>
  bif decide (i2 < (a.length : Int)) then
   (idx x1 i2).bind fun y1 =>
   (qar n y1.Slews i1).bind fun o => match o with
    | (r1, x2) =>
     (qar n y1.Loads r1).bind fun o => match o with
      | (r2, x3) =>
       (qar n y1.Values r2).bind fun o => match o with
        | (r3, x4) =>
         qb8 a n (setS x1 i2 (⟨x2, x3, x4⟩ : qF)) r3 (W64 (i2 + 1))
  else
   some (x1, i1, i2)

def qfV (n : Nat) (a : (List qF)) (k : Int) : Option (Int × (List qF)) :=
 (qb8 a n a k 0).bind fun o => match o with
 | (x1, i1, _) =>
  some (i1, x1)

theorem qiz {n : Nat} {w0 w : World} {F : List Ch} {a : (List qF)} {k : Int} {S1 : Nat → Prop} {p1 : Option Addr} {ln1 k1 : Nat} (h : SH w0 w (Ch.own S1 (a : List qF) [.slice p1 ln1 k1] :: F)) {r : (Int × (List qF))} (hF : qfV n a k = some r) : RetN Tryz.prog 175 [.slice p1 ln1 k1, .int .i64 k] w (fun w' => ∃ Z0 : Nat → Prop, SH w0 w' (Ch.own Z0 (r.2 : List qF) [.slice p1 ln1 k1] :: F)) r.1 := by
 refine qcQ Tryz.func175 rfl (m := 34) rfl rfl ?_
 rw [qfV] at hF
 obtain rfl := (h.sl 0 rfl).2
 refine zSR (zp1 rfl (zNSSR (zp1 rfl (qb ?_))))
 obtain ⟨o1, hF, hK1⟩ := qd hF
 refine qw (qP [(0, _), (1, _), (5, _)] ⟨rfl, rfl, rfl, trivial⟩ ?_)
 refine qH (fun m e w' => ∃ (S2 : Nat → Prop) (x1 : (List qF)) (i1 : Int) (i2 : Int), qb8 a m x1 i1 i2 = some o1 ∧ e = [(0, .slice p1 a.length k1), (1, .int .i64 i1), (5, .int .i64 i2)] ∧ SH w0 w' (Ch.own S2 (x1 : List qF) [.slice p1 a.length k1] :: F)) n ⟨_, _, _, _, hF, rfl, h⟩ ?_
 rintro m1 e1 w1 ⟨S2, x1, i1, i2, hF, rfl, h⟩
 rcases m1 with _ | m1
 ·rw [qb8] at hF
  cases hF
 rw [qb8] at hF
 refine zSSR (zp4 rfl (qb ?_))
 refine qr rfl hF ?_ ?_ <;> intro hF
 ·refine zKSBSR (zp2 rfl ?_)
  obtain ⟨y1, hy1, hF⟩ := qd hF
  have he1 := qf hy1
  obtain ⟨S3, S4, cs1, h⟩ := h.take hy1
  obtain ⟨p2, k2, p3, k3, p4, k4, rfl, -, -, -⟩ := qbF (h.own 0 rfl)
  obtain ⟨S5, S6, S7, h⟩ := qok h
  obtain ⟨b1, hp1, -, -, hl2⟩ := h.holeAt 3 rfl
  obtain ⟨q1, hq1⟩ : ∃ q, q = 0 + (i2).toNat * GoT.k qF := ⟨_, rfl⟩
  refine zx hp1 hq1 ⟨he1.1, qae he1.2.1 hl2⟩ rfl (zp1 rfl (zc 0 (qb7 h 3 rfl hp1 hq1) rfl (zp1 rfl ?_)))
  replace h := h.pickT 4 [2, 0, 1, 3] rfl
  obtain ⟨o2, hr1, hF⟩ := qd hF
  obtain ⟨r1, x2⟩ := o2
  refine qch r1 call24 (qau h hr1) rfl rfl rfl rfl ?_
  rintro w2 ⟨S8, h⟩
  refine zp1 rfl (zNSR (zp2 rfl ?_))
  obtain ⟨b2, hp2, -, -, hl4⟩ := h.holeAt 3 rfl
  obtain ⟨q2, hq2⟩ : ∃ q, q = 0 + (i2).toNat * GoT.k qF := ⟨_, rfl⟩
  refine zx hp2 hq2 ⟨he1.1, qae he1.2.1 hl4⟩ rfl (zp1 rfl (zc 1 (qb7 h 3 rfl hp2 hq2) rfl (zp1 rfl ?_)))
  replace h := h.pickT 4 [2, 0, 1, 3] rfl
  obtain ⟨o3, hr2, hF⟩ := qd hF
  obtain ⟨r2, x3⟩ := o3
  refine qch r2 call24 (qau h hr2) rfl rfl rfl rfl ?_
  rintro w3 ⟨S9, h⟩
  refine zp1 rfl (qb (qB (zp2 rfl ?_)))
  obtain ⟨b3, hp3, -, -, hl6⟩ := h.holeAt 3 rfl
  obtain ⟨q3, hq3⟩ : ∃ q, q = 0 + (i2).toNat * GoT.k qF := ⟨_, rfl⟩
  refine zx hp3 hq3 ⟨he1.1, qae he1.2.1 hl6⟩ rfl (zp1 rfl (zc 2 (qb7 h 3 rfl hp3 hq3) rfl (zp1 rfl ?_)))
  replace h := h.pickT 4 [2, 0, 1, 3] rfl
  obtain ⟨o4, hr3, hF⟩ := qd hF
  obtain ⟨r3, x4⟩ := o4
  refine qch r3 call24 (qau h hr3) rfl rfl rfl rfl ?_
  rintro w4 ⟨S10, h⟩
  refine zp1 rfl (zNER (zp3 rfl (qb ?_)))
  obtain ⟨S11, h⟩ := h.gatherT 4 [3] (qnR (⟨x2, x3, x4⟩ : qF) h (qad 2 h rfl) (qad 1 h rfl) (qad 0 h rfl) (by rfl) (by rfl)) rfl
  replace h := h.put
  obtain ⟨S12, h⟩ := qk5 (S := _) h
  exact qA m1 [(0, _), (1, _), (5, _)] (Nat.lt_succ_self m1) ⟨rfl, rfl, rfl, trivial⟩ ⟨_, _, _, _, hF, rfl, h⟩
 refine qG rfl ?_
 obtain rfl := qh hF; replace hF := hK1
 refine zSR (zp2 rfl (qb ?_))
 obtain rfl := qh hF
 exact qhT qc ⟨_, h⟩ ⟨rfl, trivial⟩

def qc0 (a : (List qV)) : Nat → (List qV) → Int → Int → Option ((List qV) × Int × Int)
 | 0, _, _, _ => none
 | n + 1, x1, i1, i2 =>
  bif decide (i2 < (a.length : Int)) then
   (idx x1 i2).bind fun y1 =>
   (qfV n y1.Delay (W64 ((W64 ((W64 ((W64 (i1 + 1)) + 1)) + 1)) + 1))).bind fun o => match o with
    | (r1, x2) =>
     (qfV n y1.Slew r1).bind fun o => match o with
      | (r2, x3) =>
       qc0 a n (setS x1 i2 (⟨i1, W64 (i1 + 1), W64 ((W64 (i1 + 1)) + 1), W64 ((W64 ((W64 (i1 + 1)) + 1)) + 1), x2, x3⟩ : qV)) r2 (W64 (i2 + 1))
  else
   some (x1, i1, i2)

def qic (n : Nat) (a : (List qV)) (k : Int) : Option (Int × (List qV)) :=
 (qc0 a n a k 0).bind fun o => match o with
 | (x1, i1, _) =>
  some (i1, x1)

theorem qlB {n : Nat} {w0 w : World} {F : List Ch} {a : (List qV)} {k : Int} {S1 : Nat → Prop} {p1 : Option Addr} {ln1 k1 : Nat} (h : SH w0 w (Ch.own S1 (a : List qV) [.slice p1 ln1 k1] :: F)) {r : (Int × (List qV))} (hF : qic n a k = some r) : RetN Tryz.prog 135 [.slice p1 ln1 k1, .int .i64 k] w (fun w' => ∃ Z0 : Nat → Prop, SH w0 w' (Ch.own Z0 (r.2 : List qV) [.slice p1 ln1 k1] :: F)) r.1 := by
 refine qcQ Tryz.func135 rfl (m := 55) rfl rfl ?_
 rw [qic] at hF
 obtain rfl := (h.sl 0 rfl).2
 refine zSR (zp1 rfl (zNSSR (zp1 rfl (qb ?_))))
 obtain ⟨o1, hF, hK1⟩ := qd hF
 refine qw (qP [(0, _), (1, _), (5, _)] ⟨rfl, rfl, rfl, trivial⟩ ?_)
 refine qH (fun m e w' => ∃ (S2 : Nat → Prop) (x1 : (List qV)) (i1 : Int) (i2 : Int), qc0 a m x1 i1 i2 = some o1 ∧ e = [(0, .slice p1 a.length k1), (1, .int .i64 i1), (5, .int .i64 i2)] ∧ SH w0 w' (Ch.own S2 (x1 : List qV) [.slice p1 a.length k1] :: F)) n ⟨_, _, _, _, hF, rfl, h⟩ ?_
 rintro m1 e1 w1 ⟨S2, x1, i1, i2, hF, rfl, h⟩
 rcases m1 with _ | m1
 ·rw [qc0] at hF
  cases hF
 rw [qc0] at hF
 refine zSSR (zp4 rfl (qb ?_))
 refine qr rfl hF ?_ ?_ <;> intro hF
 ·refine zKSBSR (zp3 rfl ?_)
  obtain ⟨y1, hy1, hF⟩ := qd hF
  have he1 := qf hy1
  obtain ⟨S3, S4, cs1, h⟩ := h.take hy1
  obtain ⟨p2, k2, p3, k3, rfl, -, -⟩ := qaH (h.own 0 rfl)
  obtain ⟨S5, S6, h⟩ := qp9 h
  obtain ⟨b1, hp1, -, -, hl2⟩ := h.holeAt 2 rfl
  obtain ⟨q1, hq1⟩ : ∃ q, q = 0 + (i2).toNat * GoT.k qV := ⟨_, rfl⟩
  refine zx hp1 hq1 ⟨he1.1, qae he1.2.1 hl2⟩ rfl (zp1 rfl (qfr qc 2 0 h rfl hp1 hq1 rfl rfl rfl rfl rfl rfl ?_))
  intro w2 h
  refine zNSR (zp3 rfl (zNSR (zp3 rfl ?_)))
  obtain ⟨b2, hp2, -, -, hl4⟩ := h.holeAt 2 rfl
  obtain ⟨q2, hq2⟩ : ∃ q, q = 0 + (i2).toNat * GoT.k qV := ⟨_, rfl⟩
  refine zx hp2 hq2 ⟨he1.1, qae he1.2.1 hl4⟩ rfl (zp1 rfl (qfr qc 2 1 h rfl hp2 hq2 rfl rfl rfl rfl rfl rfl ?_))
  intro w3 h
  replace h : SH _ _ (Ch.own S6 (y1.Slew : List qF) [.slice p3 y1.Slew.length k3] :: Ch.own S5 (y1.Delay : List qF) [.slice p2 y1.Delay.length k2] :: Ch.hole S4 (x1 : List qV) p1 a.length k1 (i2).toNat [.int .i64 i1, .int .i64 (W64 (i1 + 1)), .int .i64 y1.To, .int .i64 y1.Sense, .slice p2 y1.Delay.length k2, .slice p3 y1.Slew.length k3] :: F) := h
  refine zNSR (zp3 rfl (zNSR (zp3 rfl ?_)))
  obtain ⟨b3, hp3, -, -, hl6⟩ := h.holeAt 2 rfl
  obtain ⟨q3, hq3⟩ : ∃ q, q = 0 + (i2).toNat * GoT.k qV := ⟨_, rfl⟩
  refine zx hp3 hq3 ⟨he1.1, qae he1.2.1 hl6⟩ rfl (zp1 rfl (qfr qc 2 2 h rfl hp3 hq3 rfl rfl rfl rfl rfl rfl ?_))
  intro w4 h
  refine zNSR (zp3 rfl (zNSR (zp3 rfl ?_)))
  obtain ⟨b4, hp4, -, -, hl8⟩ := h.holeAt 2 rfl
  obtain ⟨q4, hq4⟩ : ∃ q, q = 0 + (i2).toNat * GoT.k qV := ⟨_, rfl⟩
  refine zx hp4 hq4 ⟨he1.1, qae he1.2.1 hl8⟩ rfl (zp1 rfl (qfr qc 2 3 h rfl hp4 hq4 rfl rfl rfl rfl rfl rfl ?_))
  intro w5 h
  replace h : SH _ _ (Ch.own S6 (y1.Slew : List qF) [.slice p3 y1.Slew.length k3] :: Ch.own S5 (y1.Delay : List qF) [.slice p2 y1.Delay.length k2] :: Ch.hole S4 (x1 : List qV) p1 a.length k1 (i2).toNat [.int .i64 i1, .int .i64 (W64 (i1 + 1)), .int .i64 (W64 ((W64 (i1 + 1)) + 1)), .int .i64 (W64 ((W64 ((W64 (i1 + 1)) + 1)) + 1)), .slice p2 y1.Delay.length k2, .slice p3 y1.Slew.length k3] :: F) := h
  refine zNSR (zp3 rfl (zNSR (zp2 rfl ?_)))
  obtain ⟨b5, hp5, -, -, hl10⟩ := h.holeAt 2 rfl
  obtain ⟨q5, hq5⟩ : ∃ q, q = 0 + (i2).toNat * GoT.k qV := ⟨_, rfl⟩
  refine zx hp5 hq5 ⟨he1.1, qae he1.2.1 hl10⟩ rfl (zp1 rfl (zc 4 (qb7 h 2 rfl hp5 hq5) rfl (zp1 rfl ?_)))
  replace h := h.pickT 3 [1, 0, 2] rfl
  obtain ⟨o2, hr1, hF⟩ := qd hF
  obtain ⟨r1, x2⟩ := o2
  refine qch r1 call175 (qiz h hr1) rfl rfl rfl rfl ?_
  rintro w6 ⟨S7, h⟩
  refine zp1 rfl (qb (qB (zp2 rfl ?_)))
  obtain ⟨b6, hp6, -, -, hl12⟩ := h.holeAt 2 rfl
  obtain ⟨q6, hq6⟩ : ∃ q, q = 0 + (i2).toNat * GoT.k qV := ⟨_, rfl⟩
  refine zx hp6 hq6 ⟨he1.1, qae he1.2.1 hl12⟩ rfl (zp1 rfl (zc 5 (qb7 h 2 rfl hp6 hq6) rfl (zp1 rfl ?_)))
  replace h := h.pickT 3 [1, 0, 2] rfl
  obtain ⟨o3, hr2, hF⟩ := qd hF
  obtain ⟨r2, x3⟩ := o3
  refine qch r2 call175 (qiz h hr2) rfl rfl rfl rfl ?_
  rintro w7 ⟨S8, h⟩
  refine zp1 rfl (zNER (zp3 rfl (qb ?_)))
  obtain ⟨S9, h⟩ := h.gatherT 3 [2] (qqh (⟨i1, W64 (i1 + 1), W64 ((W64 (i1 + 1)) + 1), W64 ((W64 ((W64 (i1 + 1)) + 1)) + 1), x2, x3⟩ : qV) h (qao (S := fun _ => False) rfl) (qao (S := fun _ => False) rfl) (qao (S := fun _ => False) rfl) (qao (S := fun _ => False) rfl) (qad 1 h rfl) (qad 0 h rfl) (by rfl) (by rfl) (by rfl) (by rfl) (by rfl)) rfl
  replace h := h.put
  obtain ⟨S10, h⟩ := qk5 (S := _) h
  exact qA m1 [(0, _), (1, _), (5, _)] (Nat.lt_succ_self m1) ⟨rfl, rfl, rfl, trivial⟩ ⟨_, _, _, _, hF, rfl, h⟩
 refine qG rfl ?_
 obtain rfl := qh hF; replace hF := hK1
 refine zSR (zp2 rfl (qb ?_))
 obtain rfl := qh hF
 exact qhT qc ⟨_, h⟩ ⟨rfl, trivial⟩

def qcB (a : (List qC)) : Nat → (List qC) → Int → Int → Option ((List qC) × Int × Int)
 | 0, _, _, _ => none
 | n + 1, x1, i1, i2 =>
  bif decide (i2 < (a.length : Int)) then
   (qdM n i1).bind fun r1 =>
   (idx x1 i2).bind fun y1 =>
   (qif n y1.Pins (W64 ((W64 (i1 + 1)) + 1))).bind fun o => match o with
    | (r2, x2) =>
     (qic n y1.Arcs r2).bind fun o => match o with
      | (r3, x3) =>
       (qar n y1.Truth r3).bind fun o => match o with
        | (r4, x4) =>
         qcB a n (setS x1 i2 (⟨r1, W64 (i1 + 1), x2, x3, x4, r4, W64 (r4 + 1)⟩ : qC)) (W64 ((W64 (r4 + 1)) + 1)) (W64 (i2 + 1))
  else
   some (x1, i1, i2)

def qhv (n : Nat) (a : (List qC)) (k : Int) : Option (Int × (List qC)) :=
 (qcB a n a k 0).bind fun o => match o with
 | (x1, i1, _) =>
  some (i1, x1)

theorem qk4 {n : Nat} {w0 w : World} {F : List Ch} {a : (List qC)} {k : Int} {S1 : Nat → Prop} {p1 : Option Addr} {ln1 k1 : Nat} (h : SH w0 w (Ch.own S1 (a : List qC) [.slice p1 ln1 k1] :: F)) {r : (Int × (List qC))} (hF : qhv n a k = some r) : RetN Tryz.prog 99 [.slice p1 ln1 k1, .int .i64 k] w (fun w' => ∃ Z0 : Nat → Prop, SH w0 w' (Ch.own Z0 (r.2 : List qC) [.slice p1 ln1 k1] :: F)) r.1 := by
 refine qcQ Tryz.func99 rfl (m := 63) rfl rfl ?_
 rw [qhv] at hF
 obtain rfl := (h.sl 0 rfl).2
 refine zSR (zp1 rfl (zNSSR (zp1 rfl (qb ?_))))
 obtain ⟨o1, hF, hK1⟩ := qd hF
 refine qw (qP [(0, _), (1, _), (5, _)] ⟨rfl, rfl, rfl, trivial⟩ ?_)
 refine qH (fun m e w' => ∃ (S2 : Nat → Prop) (x1 : (List qC)) (i1 : Int) (i2 : Int), qcB a m x1 i1 i2 = some o1 ∧ e = [(0, .slice p1 a.length k1), (1, .int .i64 i1), (5, .int .i64 i2)] ∧ SH w0 w' (Ch.own S2 (x1 : List qC) [.slice p1 a.length k1] :: F)) n ⟨_, _, _, _, hF, rfl, h⟩ ?_
 rintro m1 e1 w1 ⟨S2, x1, i1, i2, hF, rfl, h⟩
 rcases m1 with _ | m1
 ·rw [qcB] at hF
  cases hF
 rw [qcB] at hF
 refine zSSR (zp4 rfl (qb ?_))
 refine qr rfl hF ?_ ?_ <;> intro hF
 ·refine zKSBSR (zp3 rfl ?_)
  obtain ⟨r1, hr1, hF⟩ := qd hF
  refine qkA r1 h call133 (qfv hr1) rfl rfl rfl rfl ?_
  intro w2 h
  obtain ⟨y1, hy1, hF⟩ := qd hF
  have he1 := qf hy1
  obtain ⟨S3, S4, cs1, h⟩ := h.take hy1
  obtain ⟨p2, k2, p3, k3, p4, k4, rfl, -, -, -⟩ := qY (h.own 0 rfl)
  obtain ⟨S5, S6, S7, h⟩ := qoX h
  obtain ⟨b1, hp1, -, -, hl2⟩ := h.holeAt 3 rfl
  obtain ⟨q1, hq1⟩ : ∃ q, q = 0 + (i2).toNat * GoT.k qC := ⟨_, rfl⟩
  refine zx hp1 hq1 ⟨he1.1, qae he1.2.1 hl2⟩ rfl (zp1 rfl (qfr qc 3 0 h rfl hp1 hq1 rfl rfl rfl rfl rfl rfl ?_))
  intro w3 h
  refine zNSR (zp3 rfl (zNSR (zp3 rfl ?_)))
  obtain ⟨b2, hp2, -, -, hl4⟩ := h.holeAt 3 rfl
  obtain ⟨q2, hq2⟩ : ∃ q, q = 0 + (i2).toNat * GoT.k qC := ⟨_, rfl⟩
  refine zx hp2 hq2 ⟨he1.1, qae he1.2.1 hl4⟩ rfl (zp1 rfl (qfr qc 3 1 h rfl hp2 hq2 rfl rfl rfl rfl rfl rfl ?_))
  intro w4 h
  replace h : SH _ _ (Ch.own S7 (y1.Truth : List Int) [.slice p4 y1.Truth.length k4] :: Ch.own S6 (y1.Arcs : List qV) [.slice p3 y1.Arcs.length k3] :: Ch.own S5 (y1.Pins : List qan) [.slice p2 y1.Pins.length k2] :: Ch.hole S4 (x1 : List qC) p1 a.length k1 (i2).toNat [.string r1, .int .i64 (W64 (i1 + 1)), .slice p2 y1.Pins.length k2, .slice p3 y1.Arcs.length k3, .slice p4 y1.Truth.length k4, .int .i64 y1.Leak, .int .i64 y1.Energy] :: F) := h
  refine zNSR (zp3 rfl (zNSR (zp2 rfl ?_)))
  obtain ⟨b3, hp3, -, -, hl6⟩ := h.holeAt 3 rfl
  obtain ⟨q3, hq3⟩ : ∃ q, q = 0 + (i2).toNat * GoT.k qC := ⟨_, rfl⟩
  refine zx hp3 hq3 ⟨he1.1, qae he1.2.1 hl6⟩ rfl (zp1 rfl (zc 2 (qb7 h 3 rfl hp3 hq3) rfl (zp1 rfl ?_)))
  replace h := h.pickT 4 [2, 0, 1, 3] rfl
  obtain ⟨o2, hr2, hF⟩ := qd hF
  obtain ⟨r2, x2⟩ := o2
  refine qch r2 call134 (qlz h hr2) rfl rfl rfl rfl ?_
  rintro w5 ⟨S8, h⟩
  refine zp1 rfl (zNSR (zp2 rfl ?_))
  obtain ⟨b4, hp4, -, -, hl8⟩ := h.holeAt 3 rfl
  obtain ⟨q4, hq4⟩ : ∃ q, q = 0 + (i2).toNat * GoT.k qC := ⟨_, rfl⟩
  refine zx hp4 hq4 ⟨he1.1, qae he1.2.1 hl8⟩ rfl (zp1 rfl (zc 3 (qb7 h 3 rfl hp4 hq4) rfl (zp1 rfl ?_)))
  replace h := h.pickT 4 [2, 0, 1, 3] rfl
  obtain ⟨o3, hr3, hF⟩ := qd hF
  obtain ⟨r3, x3⟩ := o3
  refine qch r3 call135 (qlB h hr3) rfl rfl rfl rfl ?_
  rintro w6 ⟨S9, h⟩
  refine zp1 rfl (zNSR (zp2 rfl ?_))
  obtain ⟨b5, hp5, -, -, hl10⟩ := h.holeAt 3 rfl
  obtain ⟨q5, hq5⟩ : ∃ q, q = 0 + (i2).toNat * GoT.k qC := ⟨_, rfl⟩
  refine zx hp5 hq5 ⟨he1.1, qae he1.2.1 hl10⟩ rfl (zp1 rfl (zc 4 (qb7 h 3 rfl hp5 hq5) rfl (zp1 rfl ?_)))
  replace h := h.pickT 4 [2, 0, 1, 3] rfl
  obtain ⟨o4, hr4, hF⟩ := qd hF
  obtain ⟨r4, x4⟩ := o4
  refine qch r4 call24 (qau h hr4) rfl rfl rfl rfl ?_
  rintro w7 ⟨S10, h⟩
  refine zp1 rfl (zNSR (zp3 rfl ?_))
  obtain ⟨b6, hp6, -, -, hl12⟩ := h.holeAt 3 rfl
  obtain ⟨q6, hq6⟩ : ∃ q, q = 0 + (i2).toNat * GoT.k qC := ⟨_, rfl⟩
  refine zx hp6 hq6 ⟨he1.1, qae he1.2.1 hl12⟩ rfl (zp1 rfl (qfr qc 3 5 h rfl hp6 hq6 rfl rfl rfl rfl rfl rfl ?_))
  intro w8 h
  refine zNSR (zp3 rfl (zNSR (zp3 rfl ?_)))
  obtain ⟨b7, hp7, -, -, hl14⟩ := h.holeAt 3 rfl
  obtain ⟨q7, hq7⟩ : ∃ q, q = 0 + (i2).toNat * GoT.k qC := ⟨_, rfl⟩
  refine zx hp7 hq7 ⟨he1.1, qae he1.2.1 hl14⟩ rfl (zp1 rfl (qfr qc 3 6 h rfl hp7 hq7 rfl rfl rfl rfl rfl rfl ?_))
  intro w9 h
  replace h : SH _ _ (Ch.own S10 (x4 : List Int) [.slice p4 y1.Truth.length k4] :: Ch.own S9 (x3 : List qV) [.slice p3 y1.Arcs.length k3] :: Ch.own S8 (x2 : List qan) [.slice p2 y1.Pins.length k2] :: Ch.hole S4 (x1 : List qC) p1 a.length k1 (i2).toNat [.string r1, .int .i64 (W64 (i1 + 1)), .slice p2 y1.Pins.length k2, .slice p3 y1.Arcs.length k3, .slice p4 y1.Truth.length k4, .int .i64 r4, .int .i64 (W64 (r4 + 1))] :: F) := h
  refine qb (qB (zp3 rfl (zNER (zp3 rfl (qb ?_)))))
  obtain ⟨S11, h⟩ := h.gatherT 4 [3] (qo2 (⟨r1, W64 (i1 + 1), x2, x3, x4, r4, W64 (r4 + 1)⟩ : qC) h (qao (S := fun _ => False) rfl) (qao (S := fun _ => False) rfl) (qad 2 h rfl) (qad 1 h rfl) (qad 0 h rfl) (qao (S := fun _ => False) rfl) (qao (S := fun _ => False) rfl) (by rfl) (by rfl) (by rfl) (by rfl) (by rfl) (by rfl)) rfl
  replace h := h.put
  obtain ⟨S12, h⟩ := qk5 (S := _) h
  exact qA m1 [(0, _), (1, _), (5, _)] (Nat.lt_succ_self m1) ⟨rfl, rfl, rfl, trivial⟩ ⟨_, _, _, _, hF, rfl, h⟩
 refine qG rfl ?_
 obtain rfl := qh hF; replace hF := hK1
 refine zSR (zp2 rfl (qb ?_))
 obtain rfl := qh hF
 exact qhT qc ⟨_, h⟩ ⟨rfl, trivial⟩

def qfy (n : Nat) (a : qv) (k : Int) : Option (Int × (List qC)) :=
 (qhv n a.Cells k).bind fun o => match o with
  | (r1, x1) =>
   some (r1, x1)

theorem qkn {n : Nat} {w0 w : World} {F : List Ch} {a : qv} {k : Int} {S1 : Nat → Prop} {p1 : Option Addr} {ln1 k1 : Nat} (h : SH w0 w (Ch.own S1 (a.Cells : List qC) [.slice p1 ln1 k1] :: F)) {r : (Int × (List qC))} (hF : qfy n a k = some r) : RetN Tryz.prog 57 [.agg #[.slice p1 ln1 k1], .int .i64 k] w (fun w' => ∃ Z0 : Nat → Prop, SH w0 w' (Ch.own Z0 (r.2 : List qC) [.slice p1 ln1 k1] :: F)) r.1 := by
 refine qcQ Tryz.func57 rfl (m := 10) rfl rfl ?_
 rw [qfy] at hF
 obtain rfl := (h.sl 0 rfl).2
 refine zSR (qN h rfl rfl ?_)
 intro w1 bb1 h
 refine zp1 rfl (zNSR (zp1 rfl (zl 0 0 h rfl (zp1 rfl ?_))))
 replace h := h.pickT 2 [1, 0] rfl
 obtain ⟨o1, hr1, hF⟩ := qd hF
 obtain ⟨r1, x1⟩ := o1
 refine qch r1 call99 (qk4 h hr1) rfl rfl rfl rfl ?_
 rintro w2 ⟨S2, h⟩
 refine zp1 rfl (zNSR (zp2 rfl (qb ?_)))
 obtain rfl := qh hF
 replace h := h.pickT 2 [0] rfl
 exact qhT qc ⟨_, h⟩ ⟨rfl, trivial⟩

def qbu (a : (List qm)) : Nat → (List qm) → Int → Int → Option ((List qm) × Int × Int)
 | 0, _, _, _ => none
 | n + 1, x1, i1, i2 =>
  bif decide (i2 < (a.length : Int)) then
   (qdM n i1).bind fun r1 =>
   (idx x1 i2).bind fun y1 =>
   (qar n y1.Nets (W64 ((W64 (i1 + 1)) + 1))).bind fun o => match o with
    | (r2, x2) =>
     qbu a n (setS x1 i2 (⟨r1, W64 (i1 + 1), x2⟩ : qm)) r2 (W64 (i2 + 1))
  else
   some (x1, i1, i2)

def qfP (n : Nat) (a : (List qm)) (k : Int) : Option (Int × (List qm)) :=
 (qbu a n a k 0).bind fun o => match o with
 | (x1, i1, _) =>
  some (i1, x1)

theorem qjD {n : Nat} {w0 w : World} {F : List Ch} {a : (List qm)} {k : Int} {S1 : Nat → Prop} {p1 : Option Addr} {ln1 k1 : Nat} (h : SH w0 w (Ch.own S1 (a : List qm) [.slice p1 ln1 k1] :: F)) {r : (Int × (List qm))} (hF : qfP n a k = some r) : RetN Tryz.prog 100 [.slice p1 ln1 k1, .int .i64 k] w (fun w' => ∃ Z0 : Nat → Prop, SH w0 w' (Ch.own Z0 (r.2 : List qm) [.slice p1 ln1 k1] :: F)) r.1 := by
 refine qcQ Tryz.func100 rfl (m := 35) rfl rfl ?_
 rw [qfP] at hF
 obtain rfl := (h.sl 0 rfl).2
 refine zSR (zp1 rfl (zNSSR (zp1 rfl (qb ?_))))
 obtain ⟨o1, hF, hK1⟩ := qd hF
 refine qw (qP [(0, _), (1, _), (5, _)] ⟨rfl, rfl, rfl, trivial⟩ ?_)
 refine qH (fun m e w' => ∃ (S2 : Nat → Prop) (x1 : (List qm)) (i1 : Int) (i2 : Int), qbu a m x1 i1 i2 = some o1 ∧ e = [(0, .slice p1 a.length k1), (1, .int .i64 i1), (5, .int .i64 i2)] ∧ SH w0 w' (Ch.own S2 (x1 : List qm) [.slice p1 a.length k1] :: F)) n ⟨_, _, _, _, hF, rfl, h⟩ ?_
 rintro m1 e1 w1 ⟨S2, x1, i1, i2, hF, rfl, h⟩
 rcases m1 with _ | m1
 ·rw [qbu] at hF
  cases hF
 rw [qbu] at hF
 refine zSSR (zp4 rfl (qb ?_))
 refine qr rfl hF ?_ ?_ <;> intro hF
 ·refine zKSBSR (zp3 rfl ?_)
  obtain ⟨r1, hr1, hF⟩ := qd hF
  refine qkA r1 h call133 (qfv hr1) rfl rfl rfl rfl ?_
  intro w2 h
  obtain ⟨y1, hy1, hF⟩ := qd hF
  have he1 := qf hy1
  obtain ⟨S3, S4, cs1, h⟩ := h.take hy1
  obtain ⟨p2, k2, rfl, -⟩ := qab (h.own 0 rfl)
  obtain ⟨S5, h⟩ := qmo h
  obtain ⟨b1, hp1, -, -, hl2⟩ := h.holeAt 1 rfl
  obtain ⟨q1, hq1⟩ : ∃ q, q = 0 + (i2).toNat * GoT.k qm := ⟨_, rfl⟩
  refine zx hp1 hq1 ⟨he1.1, qae he1.2.1 hl2⟩ rfl (zp1 rfl (qfr qc 1 0 h rfl hp1 hq1 rfl rfl rfl rfl rfl rfl ?_))
  intro w3 h
  refine zNSR (zp3 rfl (zNSR (zp3 rfl ?_)))
  obtain ⟨b2, hp2, -, -, hl4⟩ := h.holeAt 1 rfl
  obtain ⟨q2, hq2⟩ : ∃ q, q = 0 + (i2).toNat * GoT.k qm := ⟨_, rfl⟩
  refine zx hp2 hq2 ⟨he1.1, qae he1.2.1 hl4⟩ rfl (zp1 rfl (qfr qc 1 1 h rfl hp2 hq2 rfl rfl rfl rfl rfl rfl ?_))
  intro w4 h
  replace h : SH _ _ (Ch.own S5 (y1.Nets : List Int) [.slice p2 y1.Nets.length k2] :: Ch.hole S4 (x1 : List qm) p1 a.length k1 (i2).toNat [.string r1, .int .i64 (W64 (i1 + 1)), .slice p2 y1.Nets.length k2] :: F) := h
  refine zNSR (zp3 rfl (qb (qB (zp2 rfl ?_))))
  obtain ⟨b3, hp3, -, -, hl6⟩ := h.holeAt 1 rfl
  obtain ⟨q3, hq3⟩ : ∃ q, q = 0 + (i2).toNat * GoT.k qm := ⟨_, rfl⟩
  refine zx hp3 hq3 ⟨he1.1, qae he1.2.1 hl6⟩ rfl (zp1 rfl (zc 2 (qb7 h 1 rfl hp3 hq3) rfl (zp1 rfl ?_)))
  obtain ⟨o2, hr2, hF⟩ := qd hF
  obtain ⟨r2, x2⟩ := o2
  refine qch r2 call24 (qau h hr2) rfl rfl rfl rfl ?_
  rintro w5 ⟨S6, h⟩
  refine zp1 rfl (zNER (zp3 rfl (qb ?_)))
  obtain ⟨S7, h⟩ := h.gatherT 2 [1] (qly (⟨r1, W64 (i1 + 1), x2⟩ : qm) h (qao (S := fun _ => False) rfl) (qao (S := fun _ => False) rfl) (qad 0 h rfl) (by rfl) (by rfl)) rfl
  replace h := h.put
  obtain ⟨S8, h⟩ := qk5 (S := _) h
  exact qA m1 [(0, _), (1, _), (5, _)] (Nat.lt_succ_self m1) ⟨rfl, rfl, rfl, trivial⟩ ⟨_, _, _, _, hF, rfl, h⟩
 refine qG rfl ?_
 obtain rfl := qh hF; replace hF := hK1
 refine zSR (zp2 rfl (qb ?_))
 obtain rfl := qh hF
 exact qhT qc ⟨_, h⟩ ⟨rfl, trivial⟩

def qbR (a : (List ByteArray)) : Nat → (List ByteArray) → Int → Int → Option ((List ByteArray) × Int × Int)
 | 0, _, _, _ => none
 | n + 1, x1, i1, i2 =>
  bif decide (i2 < (a.length : Int)) then
   (qdM n i1).bind fun r1 =>
   (idx x1 i2).bind fun _ =>
   qbR a n (setS x1 i2 r1) (W64 (i1 + 1)) (W64 (i2 + 1))
  else
   some (x1, i1, i2)

def qgx (n : Nat) (a : (List ByteArray)) (k : Int) : Option (Int × (List ByteArray)) :=
 (qbR a n a k 0).bind fun o => match o with
 | (x1, i1, _) =>
  some (i1, x1)

theorem qkl {n : Nat} {w0 w : World} {F : List Ch} {a : (List ByteArray)} {k : Int} {S1 : Nat → Prop} {p1 : Option Addr} {ln1 k1 : Nat} (h : SH w0 w (Ch.own S1 (a : List ByteArray) [.slice p1 ln1 k1] :: F)) {r : (Int × (List ByteArray))} (hF : qgx n a k = some r) : RetN Tryz.prog 101 [.slice p1 ln1 k1, .int .i64 k] w (fun w' => ∃ Z0 : Nat → Prop, SH w0 w' (Ch.own Z0 (r.2 : List ByteArray) [.slice p1 ln1 k1] :: F)) r.1 := by
 refine qcQ Tryz.func101 rfl (m := 20) rfl rfl ?_
 rw [qgx] at hF
 obtain rfl := (h.sl 0 rfl).2
 refine zSR (zp1 rfl (zNSSR (zp1 rfl (qb ?_))))
 obtain ⟨o1, hF, hK1⟩ := qd hF
 refine qw (qP [(0, _), (1, _), (5, _)] ⟨rfl, rfl, rfl, trivial⟩ ?_)
 refine qH (fun m e w' => ∃ (x1 : (List ByteArray)) (i1 : Int) (i2 : Int), qbR a m x1 i1 i2 = some o1 ∧ e = [(0, .slice p1 a.length k1), (1, .int .i64 i1), (5, .int .i64 i2)] ∧ SH w0 w' (Ch.own S1 (x1 : List ByteArray) [.slice p1 a.length k1] :: F)) n ⟨_, _, _, hF, rfl, h⟩ ?_
 rintro m1 e1 w1 ⟨x1, i1, i2, hF, rfl, h⟩
 rcases m1 with _ | m1
 ·rw [qbR] at hF
  cases hF
 rw [qbR] at hF
 refine zSSR (zp4 rfl (qb ?_))
 refine qr rfl hF ?_ ?_ <;> intro hF
 ·refine zKSBSR (zp3 rfl ?_)
  obtain ⟨r1, hr1, hF⟩ := qd hF
  refine qkA r1 h call133 (qfv hr1) rfl rfl rfl rfl ?_
  intro w2 h
  obtain ⟨y1, hy1, hF⟩ := qd hF
  have he1 := qf hy1
  obtain ⟨b1, o_1, q1, cs1, hp1, hq1, -, hr2, hc2⟩ := (h.sl 0 rfl).1.at hy1
  obtain rfl := hr2
  refine zx hp1 hq1 ⟨he1.1, qae he1.2.1 (h.sl 0 rfl).2⟩ rfl (qdj qc 0 0 r1 h rfl hy1 hp1 hq1 rfl hc2 rfl rfl rfl rfl rfl rfl rfl ?_)
  intro w3 h
  refine qb (qB (zp3 rfl (zNER (zp3 rfl (qb ?_)))))
  exact qA m1 [(0, _), (1, _), (5, _)] (Nat.lt_succ_self m1) ⟨rfl, rfl, rfl, trivial⟩ ⟨_, _, _, hF, rfl, h⟩
 refine qG rfl ?_
 obtain rfl := qh hF; replace hF := hK1
 refine zSR (zp2 rfl (qb ?_))
 obtain rfl := qh hF
 exact qhT qc ⟨_, h⟩ ⟨rfl, trivial⟩

def qcA (a : (List qX)) : Nat → (List qX) → Int → Int → Option ((List qX) × Int × Int)
 | 0, _, _, _ => none
 | n + 1, x1, i1, i2 =>
  bif decide (i2 < (a.length : Int)) then
   (qdM n i1).bind fun r1 =>
   (idx x1 i2).bind fun y1 =>
   (idx (setS x1 i2 ({ y1 with Name := r1 })) i2).bind fun y2 =>
   (idx (setS (setS x1 i2 ({ y1 with Name := r1 })) i2 ({ y2 with Dir := W64 (i1 + 1) })) i2).bind fun y3 =>
   qcA a n (setS (setS (setS x1 i2 ({ y1 with Name := r1 })) i2 ({ y2 with Dir := W64 (i1 + 1) })) i2 ({ y3 with Net := W64 ((W64 (i1 + 1)) + 1) })) (W64 ((W64 ((W64 (i1 + 1)) + 1)) + 1)) (W64 (i2 + 1))
  else
   some (x1, i1, i2)

def qhD (n : Nat) (a : (List qX)) (k : Int) : Option (Int × (List qX)) :=
 (qcA a n a k 0).bind fun o => match o with
 | (x1, i1, _) =>
  some (i1, x1)

theorem qkV {n : Nat} {w0 w : World} {F : List Ch} {a : (List qX)} {k : Int} {S1 : Nat → Prop} {p1 : Option Addr} {ln1 k1 : Nat} (h : SH w0 w (Ch.own S1 (a : List qX) [.slice p1 ln1 k1] :: F)) {r : (Int × (List qX))} (hF : qhD n a k = some r) : RetN Tryz.prog 102 [.slice p1 ln1 k1, .int .i64 k] w (fun w' => ∃ Z0 : Nat → Prop, SH w0 w' (Ch.own Z0 (r.2 : List qX) [.slice p1 ln1 k1] :: F)) r.1 := by
 refine qcQ Tryz.func102 rfl (m := 35) rfl rfl ?_
 rw [qhD] at hF
 obtain rfl := (h.sl 0 rfl).2
 refine zSR (zp1 rfl (zNSSR (zp1 rfl (qb ?_))))
 obtain ⟨o1, hF, hK1⟩ := qd hF
 refine qw (qP [(0, _), (1, _), (5, _)] ⟨rfl, rfl, rfl, trivial⟩ ?_)
 refine qH (fun m e w' => ∃ (x1 : (List qX)) (i1 : Int) (i2 : Int), qcA a m x1 i1 i2 = some o1 ∧ e = [(0, .slice p1 a.length k1), (1, .int .i64 i1), (5, .int .i64 i2)] ∧ SH w0 w' (Ch.own S1 (x1 : List qX) [.slice p1 a.length k1] :: F)) n ⟨_, _, _, hF, rfl, h⟩ ?_
 rintro m1 e1 w1 ⟨x1, i1, i2, hF, rfl, h⟩
 rcases m1 with _ | m1
 ·rw [qcA] at hF
  cases hF
 rw [qcA] at hF
 refine zSSR (zp4 rfl (qb ?_))
 refine qr rfl hF ?_ ?_ <;> intro hF
 ·refine zKSBSR (zp3 rfl ?_)
  obtain ⟨r1, hr1, hF⟩ := qd hF
  refine qkA r1 h call133 (qfv hr1) rfl rfl rfl rfl ?_
  intro w2 h
  obtain ⟨y1, hy1, hF⟩ := qd hF
  have he1 := qf hy1
  obtain ⟨b1, o_1, q1, cs1, hp1, hq1, -, hr2, hc2⟩ := (h.sl 0 rfl).1.at hy1
  obtain rfl := qa8 hr2
  refine zx hp1 hq1 ⟨he1.1, qae he1.2.1 (h.sl 0 rfl).2⟩ rfl (zp1 rfl (qdj qc 0 0 ({ y1 with Name := r1 }) h rfl hy1 hp1 hq1 (qew y1) hc2 rfl rfl rfl (qew ({ y1 with Name := r1 })) rfl rfl rfl ?_))
  intro w3 h
  refine zNSR (zp3 rfl (zNSR (zp3 rfl ?_)))
  obtain ⟨y2, hy2, hF⟩ := qd hF
  have he2 := qf hy2
  obtain ⟨b2, o_2, q2, cs2, hp2, hq2, -, hr3, hc3⟩ := (h.sl 0 rfl).1.at hy2
  obtain rfl := qa8 hr3
  refine zx hp2 hq2 ⟨he2.1, qae he2.2.1 (h.sl 0 rfl).2⟩ rfl (zp1 rfl (qdj qc 0 1 ({ y2 with Dir := W64 (i1 + 1) }) h rfl hy2 hp2 hq2 (qew y2) hc3 rfl rfl rfl (qew ({ y2 with Dir := W64 (i1 + 1) })) rfl rfl rfl ?_))
  intro w4 h
  refine zNSR (zp3 rfl (zNSR (zp3 rfl ?_)))
  obtain ⟨y3, hy3, hF⟩ := qd hF
  have he3 := qf hy3
  obtain ⟨b3, o_3, q3, cs3, hp3, hq3, -, hr4, hc4⟩ := (h.sl 0 rfl).1.at hy3
  obtain rfl := qa8 hr4
  refine zx hp3 hq3 ⟨he3.1, qae he3.2.1 (h.sl 0 rfl).2⟩ rfl (zp1 rfl (qdj qc 0 2 ({ y3 with Net := W64 ((W64 (i1 + 1)) + 1) }) h rfl hy3 hp3 hq3 (qew y3) hc4 rfl rfl rfl (qew ({ y3 with Net := W64 ((W64 (i1 + 1)) + 1) })) rfl rfl rfl ?_))
  intro w5 h
  refine qb (qB (zp3 rfl (zNER (zp3 rfl (qb ?_)))))
  exact qA m1 [(0, _), (1, _), (5, _)] (Nat.lt_succ_self m1) ⟨rfl, rfl, rfl, trivial⟩ ⟨_, _, _, hF, rfl, h⟩
 refine qG rfl ?_
 obtain rfl := qh hF; replace hF := hK1
 refine zSR (zp2 rfl (qb ?_))
 obtain rfl := qh hF
 exact qhT qc ⟨_, h⟩ ⟨rfl, trivial⟩

def qfZ (n : Nat) (a : qj) (k : Int) : Option (Int × (List qm) × (List ByteArray) × (List qX)) :=
 (qfP n a.Instances k).bind fun o => match o with
  | (r1, x1) =>
   (qgx n a.Nets r1).bind fun o => match o with
    | (r2, x2) =>
     (qhD n a.Ports r2).bind fun o => match o with
      | (r3, x3) =>
       some (r3, x1, x2, x3)

theorem qkF {n : Nat} {w0 w : World} {F : List Ch} {a : qj} {k : Int} {S1 : Nat → Prop} {p1 : Option Addr} {ln1 k1 : Nat} {S2 : Nat → Prop} {p2 : Option Addr} {ln2 k2 : Nat} {S3 : Nat → Prop} {p3 : Option Addr} {ln3 k3 : Nat} (h : SH w0 w (Ch.own S3 (a.Ports : List qX) [.slice p3 ln3 k3] :: Ch.own S2 (a.Nets : List ByteArray) [.slice p2 ln2 k2] :: Ch.own S1 (a.Instances : List qm) [.slice p1 ln1 k1] :: F)) {r : (Int × (List qm) × (List ByteArray) × (List qX))} (hF : qfZ n a k = some r) : RetN Tryz.prog 58 [.agg #[.slice p1 ln1 k1, .slice p2 ln2 k2, .slice p3 ln3 k3], .int .i64 k] w (fun w' => ∃ Z0 Z1 Z2 : Nat → Prop, SH w0 w' (Ch.own Z2 (r.2.2.2 : List qX) [.slice p3 ln3 k3] :: Ch.own Z1 (r.2.2.1 : List ByteArray) [.slice p2 ln2 k2] :: Ch.own Z0 (r.2.1 : List qm) [.slice p1 ln1 k1] :: F)) r.1 := by
 refine qcQ Tryz.func58 rfl (m := 18) rfl rfl ?_
 rw [qfZ] at hF
 obtain rfl := (h.sl 0 rfl).2
 obtain rfl := (h.sl 1 rfl).2
 obtain rfl := (h.sl 2 rfl).2
 refine zSR (qN h rfl rfl ?_)
 intro w1 bb1 h
 refine zp1 rfl (zNSR (zp1 rfl (zl 0 0 h rfl (zp1 rfl ?_))))
 replace h := h.pickT 4 [3, 0, 1, 2] rfl
 obtain ⟨o1, hr1, hF⟩ := qd hF
 obtain ⟨r1, x1⟩ := o1
 refine qch r1 call100 (qjD h hr1) rfl rfl rfl rfl ?_
 rintro w2 ⟨S4, h⟩
 refine zp1 rfl (zNSR (zp1 rfl (zl 1 1 h rfl (zp1 rfl ?_))))
 replace h := h.pickT 4 [3, 0, 1, 2] rfl
 obtain ⟨o2, hr2, hF⟩ := qd hF
 obtain ⟨r2, x2⟩ := o2
 refine qch r2 call101 (qkl h hr2) rfl rfl rfl rfl ?_
 rintro w3 ⟨S5, h⟩
 refine zp1 rfl (zNSR (zp1 rfl (zl 2 2 h rfl (zp1 rfl ?_))))
 replace h := h.pickT 4 [3, 0, 1, 2] rfl
 obtain ⟨o3, hr3, hF⟩ := qd hF
 obtain ⟨r3, x3⟩ := o3
 refine qch r3 call102 (qkV h hr3) rfl rfl rfl rfl ?_
 rintro w4 ⟨S6, h⟩
 refine zp1 rfl (zNSR (zp2 rfl (qb ?_)))
 obtain rfl := qh hF
 replace h := h.pickT 4 [0, 1, 2] rfl
 exact qhT qc ⟨_, _, _, h⟩ ⟨rfl, trivial⟩

def qcv (a : (List qS)) : Nat → (List qS) → Int → Int → Option ((List qS) × Int × Int)
 | 0, _, _, _ => none
 | n + 1, x1, i1, i2 =>
  bif decide (i2 < (a.length : Int)) then
   (idx x1 i2).bind fun y1 =>
   (qar n y1.Parent i1).bind fun o => match o with
    | (r1, x2) =>
     (qar n y1.Res r1).bind fun o => match o with
      | (r2, x3) =>
       (qar n y1.Cap r2).bind fun o => match o with
        | (r3, x4) =>
         (qar n y1.Sink r3).bind fun o => match o with
          | (r4, x5) =>
           qcv a n (setS x1 i2 (⟨x2, x3, x4, x5⟩ : qS)) r4 (W64 (i2 + 1))
  else
   some (x1, i1, i2)

def qhG (n : Nat) (a : (List qS)) (k : Int) : Option (Int × (List qS)) :=
 (qcv a n a k 0).bind fun o => match o with
 | (x1, i1, _) =>
  some (i1, x1)

theorem qk2 {n : Nat} {w0 w : World} {F : List Ch} {a : (List qS)} {k : Int} {S1 : Nat → Prop} {p1 : Option Addr} {ln1 k1 : Nat} (h : SH w0 w (Ch.own S1 (a : List qS) [.slice p1 ln1 k1] :: F)) {r : (Int × (List qS))} (hF : qhG n a k = some r) : RetN Tryz.prog 59 [.slice p1 ln1 k1, .int .i64 k] w (fun w' => ∃ Z0 : Nat → Prop, SH w0 w' (Ch.own Z0 (r.2 : List qS) [.slice p1 ln1 k1] :: F)) r.1 := by
 refine qcQ Tryz.func59 rfl (m := 41) rfl rfl ?_
 rw [qhG] at hF
 obtain rfl := (h.sl 0 rfl).2
 refine zSR (zp1 rfl (zNSSR (zp1 rfl (qb ?_))))
 obtain ⟨o1, hF, hK1⟩ := qd hF
 refine qw (qP [(0, _), (1, _), (5, _)] ⟨rfl, rfl, rfl, trivial⟩ ?_)
 refine qH (fun m e w' => ∃ (S2 : Nat → Prop) (x1 : (List qS)) (i1 : Int) (i2 : Int), qcv a m x1 i1 i2 = some o1 ∧ e = [(0, .slice p1 a.length k1), (1, .int .i64 i1), (5, .int .i64 i2)] ∧ SH w0 w' (Ch.own S2 (x1 : List qS) [.slice p1 a.length k1] :: F)) n ⟨_, _, _, _, hF, rfl, h⟩ ?_
 rintro m1 e1 w1 ⟨S2, x1, i1, i2, hF, rfl, h⟩
 rcases m1 with _ | m1
 ·rw [qcv] at hF
  cases hF
 rw [qcv] at hF
 refine zSSR (zp4 rfl (qb ?_))
 refine qr rfl hF ?_ ?_ <;> intro hF
 ·refine zKSBSR (zp2 rfl ?_)
  obtain ⟨y1, hy1, hF⟩ := qd hF
  have he1 := qf hy1
  obtain ⟨S3, S4, cs1, h⟩ := h.take hy1
  obtain ⟨p2, k2, p3, k3, p4, k4, p5, k5, rfl, -, -, -, -⟩ := qbJ (h.own 0 rfl)
  obtain ⟨S5, S6, S7, S8, h⟩ := qoN h
  obtain ⟨b1, hp1, -, -, hl2⟩ := h.holeAt 4 rfl
  obtain ⟨q1, hq1⟩ : ∃ q, q = 0 + (i2).toNat * GoT.k qS := ⟨_, rfl⟩
  refine zx hp1 hq1 ⟨he1.1, qae he1.2.1 hl2⟩ rfl (zp1 rfl (zc 0 (qb7 h 4 rfl hp1 hq1) rfl (zp1 rfl ?_)))
  replace h := h.pickT 5 [3, 0, 1, 2, 4] rfl
  obtain ⟨o2, hr1, hF⟩ := qd hF
  obtain ⟨r1, x2⟩ := o2
  refine qch r1 call24 (qau h hr1) rfl rfl rfl rfl ?_
  rintro w2 ⟨S9, h⟩
  refine zp1 rfl (zNSR (zp2 rfl ?_))
  obtain ⟨b2, hp2, -, -, hl4⟩ := h.holeAt 4 rfl
  obtain ⟨q2, hq2⟩ : ∃ q, q = 0 + (i2).toNat * GoT.k qS := ⟨_, rfl⟩
  refine zx hp2 hq2 ⟨he1.1, qae he1.2.1 hl4⟩ rfl (zp1 rfl (zc 1 (qb7 h 4 rfl hp2 hq2) rfl (zp1 rfl ?_)))
  replace h := h.pickT 5 [3, 0, 1, 2, 4] rfl
  obtain ⟨o3, hr2, hF⟩ := qd hF
  obtain ⟨r2, x3⟩ := o3
  refine qch r2 call24 (qau h hr2) rfl rfl rfl rfl ?_
  rintro w3 ⟨S10, h⟩
  refine zp1 rfl (zNSR (zp2 rfl ?_))
  obtain ⟨b3, hp3, -, -, hl6⟩ := h.holeAt 4 rfl
  obtain ⟨q3, hq3⟩ : ∃ q, q = 0 + (i2).toNat * GoT.k qS := ⟨_, rfl⟩
  refine zx hp3 hq3 ⟨he1.1, qae he1.2.1 hl6⟩ rfl (zp1 rfl (zc 2 (qb7 h 4 rfl hp3 hq3) rfl (zp1 rfl ?_)))
  replace h := h.pickT 5 [3, 0, 1, 2, 4] rfl
  obtain ⟨o4, hr3, hF⟩ := qd hF
  obtain ⟨r3, x4⟩ := o4
  refine qch r3 call24 (qau h hr3) rfl rfl rfl rfl ?_
  rintro w4 ⟨S11, h⟩
  refine zp1 rfl (qb (qB (zp2 rfl ?_)))
  obtain ⟨b4, hp4, -, -, hl8⟩ := h.holeAt 4 rfl
  obtain ⟨q4, hq4⟩ : ∃ q, q = 0 + (i2).toNat * GoT.k qS := ⟨_, rfl⟩
  refine zx hp4 hq4 ⟨he1.1, qae he1.2.1 hl8⟩ rfl (zp1 rfl (zc 3 (qb7 h 4 rfl hp4 hq4) rfl (zp1 rfl ?_)))
  replace h := h.pickT 5 [3, 0, 1, 2, 4] rfl
  obtain ⟨o5, hr4, hF⟩ := qd hF
  obtain ⟨r4, x5⟩ := o5
  refine qch r4 call24 (qau h hr4) rfl rfl rfl rfl ?_
  rintro w5 ⟨S12, h⟩
  refine zp1 rfl (zNER (zp3 rfl (qb ?_)))
  obtain ⟨S13, h⟩ := h.gatherT 5 [4] (qo8 (⟨x2, x3, x4, x5⟩ : qS) h (qad 3 h rfl) (qad 2 h rfl) (qad 1 h rfl) (qad 0 h rfl) (by rfl) (by rfl) (by rfl)) rfl
  replace h := h.put
  obtain ⟨S14, h⟩ := qk5 (S := _) h
  exact qA m1 [(0, _), (1, _), (5, _)] (Nat.lt_succ_self m1) ⟨rfl, rfl, rfl, trivial⟩ ⟨_, _, _, _, hF, rfl, h⟩
 refine qG rfl ?_
 obtain rfl := qh hF; replace hF := hK1
 refine zSR (zp2 rfl (qb ?_))
 obtain rfl := qh hF
 exact qhT qc ⟨_, h⟩ ⟨rfl, trivial⟩

def qgn (n : Nat) (a : qz) (k : Int) : Option (Int × (List qC) × (List qm) × (List ByteArray) × (List qX) × (List qS)) :=
 (qfy n (⟨a.Library.Cells⟩ : qv) k).bind fun o => match o with
  | (r1, x1) =>
   (qfZ n (⟨a.Design.Instances, a.Design.Nets, a.Design.Ports⟩ : qj) r1).bind fun o => match o with
    | (r2, x2, x3, x4) =>
     (qhG n a.Wires r2).bind fun o => match o with
      | (r3, x5) =>
       some (r3, x1, x2, x3, x4, x5)

theorem qla {n : Nat} {w0 w : World} {F : List Ch} {a : qz} {k : Int} {S1 : Nat → Prop} {p1 : Option Addr} {ln1 k1 : Nat} {S2 : Nat → Prop} {p2 : Option Addr} {ln2 k2 : Nat} {S3 : Nat → Prop} {p3 : Option Addr} {ln3 k3 : Nat} {S4 : Nat → Prop} {p4 : Option Addr} {ln4 k4 : Nat} {S5 : Nat → Prop} {p5 : Option Addr} {ln5 k5 : Nat} (h : SH w0 w (Ch.own S5 (a.Wires : List qS) [.slice p5 ln5 k5] :: Ch.own S4 (a.Design.Ports : List qX) [.slice p4 ln4 k4] :: Ch.own S3 (a.Design.Nets : List ByteArray) [.slice p3 ln3 k3] :: Ch.own S2 (a.Design.Instances : List qm) [.slice p2 ln2 k2] :: Ch.own S1 (a.Library.Cells : List qC) [.slice p1 ln1 k1] :: F)) {r : (Int × (List qC) × (List qm) × (List ByteArray) × (List qX) × (List qS))} (hF : qgn n a k = some r) : RetN Tryz.prog 22 [.agg #[.slice p1 ln1 k1, .slice p2 ln2 k2, .slice p3 ln3 k3, .slice p4 ln4 k4, .slice p5 ln5 k5], .int .i64 k] w (fun w' => ∃ Z0 Z1 Z2 Z3 Z4 : Nat → Prop, SH w0 w' (Ch.own Z4 (r.2.2.2.2.2 : List qS) [.slice p5 ln5 k5] :: Ch.own Z3 (r.2.2.2.2.1 : List qX) [.slice p4 ln4 k4] :: Ch.own Z2 (r.2.2.2.1 : List ByteArray) [.slice p3 ln3 k3] :: Ch.own Z1 (r.2.2.1 : List qm) [.slice p2 ln2 k2] :: Ch.own Z0 (r.2.1 : List qC) [.slice p1 ln1 k1] :: F)) r.1 := by
 refine qcQ Tryz.func22 rfl (m := 18) rfl rfl ?_
 rw [qgn] at hF
 obtain rfl := (h.sl 0 rfl).2
 obtain rfl := (h.sl 1 rfl).2
 obtain rfl := (h.sl 2 rfl).2
 obtain rfl := (h.sl 3 rfl).2
 obtain rfl := (h.sl 4 rfl).2
 refine zSR (qN h rfl rfl ?_)
 intro w1 bb1 h
 refine zp1 rfl (zNSR (zp1 rfl (zl 0 0 h rfl (zp1 rfl ?_))))
 replace h := h.pickT 6 [5, 0, 1, 2, 3, 4] rfl
 obtain ⟨o1, hr1, hF⟩ := qd hF
 obtain ⟨r1, x1⟩ := o1
 refine qch r1 call57 (qkn h hr1) rfl rfl rfl rfl ?_
 rintro w2 ⟨S6, h⟩
 refine zp1 rfl (zNSR (zp1 rfl (zl 1 1 h rfl (zp1 rfl ?_))))
 replace h := h.pickT 6 [3, 4, 5, 0, 1, 2] rfl
 obtain ⟨o2, hr2, hF⟩ := qd hF
 obtain ⟨r2, x2, x3, x4⟩ := o2
 refine qch r2 call58 (qkF h hr2) rfl rfl rfl rfl ?_
 rintro w3 ⟨S7, S8, S9, h⟩
 refine zp1 rfl (zNSR (zp1 rfl (zl 4 4 h rfl (zp1 rfl ?_))))
 replace h := h.pickT 6 [5, 0, 1, 2, 3, 4] rfl
 obtain ⟨o3, hr3, hF⟩ := qd hF
 obtain ⟨r3, x5⟩ := o3
 refine qch r3 call59 (qk2 h hr3) rfl rfl rfl rfl ?_
 rintro w4 ⟨S10, h⟩
 refine zp1 rfl (zNSR (zp2 rfl (qb ?_)))
 obtain rfl := qh hF
 replace h := h.pickT 6 [0, 1, 2, 3, 4] rfl
 exact qhT qc ⟨_, _, _, _, _, h⟩ ⟨rfl, trivial⟩

def qbl (a : (List qg)) : Nat → (List qg) → Int → Int → Option ((List qg) × Int × Int)
 | 0, _, _, _ => none
 | n + 1, x1, i1, i2 =>
  bif decide (i2 < (a.length : Int)) then
   (idx x1 i2).bind fun y1 =>
   (qar n y1.From (W64 ((W64 (i1 + 1)) + 1))).bind fun o => match o with
    | (r1, x2) =>
     (qar n y1.Through r1).bind fun o => match o with
      | (r2, x3) =>
       (qar n y1.To r2).bind fun o => match o with
        | (r3, x4) =>
         qbl a n (setS x1 i2 (⟨i1, W64 (i1 + 1), x2, x3, x4⟩ : qg)) r3 (W64 (i2 + 1))
  else
   some (x1, i1, i2)

def qfl (n : Nat) (a : (List qg)) (k : Int) : Option (Int × (List qg)) :=
 (qbl a n a k 0).bind fun o => match o with
 | (x1, i1, _) =>
  some (i1, x1)

theorem qjs {n : Nat} {w0 w : World} {F : List Ch} {a : (List qg)} {k : Int} {S1 : Nat → Prop} {p1 : Option Addr} {ln1 k1 : Nat} (h : SH w0 w (Ch.own S1 (a : List qg) [.slice p1 ln1 k1] :: F)) {r : (Int × (List qg))} (hF : qfl n a k = some r) : RetN Tryz.prog 23 [.slice p1 ln1 k1, .int .i64 k] w (fun w' => ∃ Z0 : Nat → Prop, SH w0 w' (Ch.own Z0 (r.2 : List qg) [.slice p1 ln1 k1] :: F)) r.1 := by
 refine qcQ Tryz.func23 rfl (m := 48) rfl rfl ?_
 rw [qfl] at hF
 obtain rfl := (h.sl 0 rfl).2
 refine zSR (zp1 rfl (zNSSR (zp1 rfl (qb ?_))))
 obtain ⟨o1, hF, hK1⟩ := qd hF
 refine qw (qP [(0, _), (1, _), (5, _)] ⟨rfl, rfl, rfl, trivial⟩ ?_)
 refine qH (fun m e w' => ∃ (S2 : Nat → Prop) (x1 : (List qg)) (i1 : Int) (i2 : Int), qbl a m x1 i1 i2 = some o1 ∧ e = [(0, .slice p1 a.length k1), (1, .int .i64 i1), (5, .int .i64 i2)] ∧ SH w0 w' (Ch.own S2 (x1 : List qg) [.slice p1 a.length k1] :: F)) n ⟨_, _, _, _, hF, rfl, h⟩ ?_
 rintro m1 e1 w1 ⟨S2, x1, i1, i2, hF, rfl, h⟩
 rcases m1 with _ | m1
 ·rw [qbl] at hF
  cases hF
 rw [qbl] at hF
 refine zSSR (zp4 rfl (qb ?_))
 refine qr rfl hF ?_ ?_ <;> intro hF
 ·refine zKSBSR (zp3 rfl ?_)
  obtain ⟨y1, hy1, hF⟩ := qd hF
  have he1 := qf hy1
  obtain ⟨S3, S4, cs1, h⟩ := h.take hy1
  obtain ⟨p2, k2, p3, k3, p4, k4, rfl, -, -, -⟩ := qac (h.own 0 rfl)
  obtain ⟨S5, S6, S7, h⟩ := qlJ h
  obtain ⟨b1, hp1, -, -, hl2⟩ := h.holeAt 3 rfl
  obtain ⟨q1, hq1⟩ : ∃ q, q = 0 + (i2).toNat * GoT.k qg := ⟨_, rfl⟩
  refine zx hp1 hq1 ⟨he1.1, qae he1.2.1 hl2⟩ rfl (zp1 rfl (qfr qc 3 0 h rfl hp1 hq1 rfl rfl rfl rfl rfl rfl ?_))
  intro w2 h
  refine zNSR (zp3 rfl (zNSR (zp3 rfl ?_)))
  obtain ⟨b2, hp2, -, -, hl4⟩ := h.holeAt 3 rfl
  obtain ⟨q2, hq2⟩ : ∃ q, q = 0 + (i2).toNat * GoT.k qg := ⟨_, rfl⟩
  refine zx hp2 hq2 ⟨he1.1, qae he1.2.1 hl4⟩ rfl (zp1 rfl (qfr qc 3 1 h rfl hp2 hq2 rfl rfl rfl rfl rfl rfl ?_))
  intro w3 h
  replace h : SH _ _ (Ch.own S7 (y1.To : List Int) [.slice p4 y1.To.length k4] :: Ch.own S6 (y1.Through : List Int) [.slice p3 y1.Through.length k3] :: Ch.own S5 (y1.From : List Int) [.slice p2 y1.From.length k2] :: Ch.hole S4 (x1 : List qg) p1 a.length k1 (i2).toNat [.int .i64 i1, .int .i64 (W64 (i1 + 1)), .slice p2 y1.From.length k2, .slice p3 y1.Through.length k3, .slice p4 y1.To.length k4] :: F) := h
  refine zNSR (zp3 rfl (zNSR (zp2 rfl ?_)))
  obtain ⟨b3, hp3, -, -, hl6⟩ := h.holeAt 3 rfl
  obtain ⟨q3, hq3⟩ : ∃ q, q = 0 + (i2).toNat * GoT.k qg := ⟨_, rfl⟩
  refine zx hp3 hq3 ⟨he1.1, qae he1.2.1 hl6⟩ rfl (zp1 rfl (zc 2 (qb7 h 3 rfl hp3 hq3) rfl (zp1 rfl ?_)))
  replace h := h.pickT 4 [2, 0, 1, 3] rfl
  obtain ⟨o2, hr1, hF⟩ := qd hF
  obtain ⟨r1, x2⟩ := o2
  refine qch r1 call24 (qau h hr1) rfl rfl rfl rfl ?_
  rintro w4 ⟨S8, h⟩
  refine zp1 rfl (zNSR (zp2 rfl ?_))
  obtain ⟨b4, hp4, -, -, hl8⟩ := h.holeAt 3 rfl
  obtain ⟨q4, hq4⟩ : ∃ q, q = 0 + (i2).toNat * GoT.k qg := ⟨_, rfl⟩
  refine zx hp4 hq4 ⟨he1.1, qae he1.2.1 hl8⟩ rfl (zp1 rfl (zc 3 (qb7 h 3 rfl hp4 hq4) rfl (zp1 rfl ?_)))
  replace h := h.pickT 4 [2, 0, 1, 3] rfl
  obtain ⟨o3, hr2, hF⟩ := qd hF
  obtain ⟨r2, x3⟩ := o3
  refine qch r2 call24 (qau h hr2) rfl rfl rfl rfl ?_
  rintro w5 ⟨S9, h⟩
  refine zp1 rfl (qb (qB (zp2 rfl ?_)))
  obtain ⟨b5, hp5, -, -, hl10⟩ := h.holeAt 3 rfl
  obtain ⟨q5, hq5⟩ : ∃ q, q = 0 + (i2).toNat * GoT.k qg := ⟨_, rfl⟩
  refine zx hp5 hq5 ⟨he1.1, qae he1.2.1 hl10⟩ rfl (zp1 rfl (zc 4 (qb7 h 3 rfl hp5 hq5) rfl (zp1 rfl ?_)))
  replace h := h.pickT 4 [2, 0, 1, 3] rfl
  obtain ⟨o4, hr3, hF⟩ := qd hF
  obtain ⟨r3, x4⟩ := o4
  refine qch r3 call24 (qau h hr3) rfl rfl rfl rfl ?_
  rintro w6 ⟨S10, h⟩
  refine zp1 rfl (zNER (zp3 rfl (qb ?_)))
  obtain ⟨S11, h⟩ := h.gatherT 4 [3] (qkP (⟨i1, W64 (i1 + 1), x2, x3, x4⟩ : qg) h (qao (S := fun _ => False) rfl) (qao (S := fun _ => False) rfl) (qad 2 h rfl) (qad 1 h rfl) (qad 0 h rfl) (by rfl) (by rfl) (by rfl) (by rfl)) rfl
  replace h := h.put
  obtain ⟨S12, h⟩ := qk5 (S := _) h
  exact qA m1 [(0, _), (1, _), (5, _)] (Nat.lt_succ_self m1) ⟨rfl, rfl, rfl, trivial⟩ ⟨_, _, _, _, hF, rfl, h⟩
 refine qG rfl ?_
 obtain rfl := qh hF; replace hF := hK1
 refine zSR (zp2 rfl (qb ?_))
 obtain rfl := qh hF
 exact qhT qc ⟨_, h⟩ ⟨rfl, trivial⟩

def qbK (a : (List Int)) : Nat → Int → Int → Option (Flow Int (Int × Int))
 | 0, _, _ => none
 | n + 1, i1, i2 =>
  bif decide (i2 < (a.length : Int)) then
   (idx a i2).bind fun y1 =>
   bif (y1 != i1) then
    some (.ret (-1))
   else
    qbK a n (W64 (i1 + 1)) (W64 (i2 + 1))
  else
   some (.nxt (i1, i2))

def qeR (n : Nat) (a : (List Int)) (k : Int) : Option Int :=
 (qbK a n k 0).bind fun o => match o with
 | .ret r => some r
 | .nxt (i1, _) =>
  some i1

theorem qiZ {n : Nat} {w : World} {a : (List Int)} {k : Int} {cs1 : List Value} (ha1 : GoT.R w (old w) a cs1) {r : Int} (hF : qeR n a k = some r) : RetV Tryz.prog 25 [GoT.v (List Int) cs1, .int .i64 k] w r := by
 obtain ⟨p1, k1, rfl, s1⟩ := ha1
 refine qe Tryz.func25 rfl (m := 21) rfl rfl (fun h => ?_)
 rw [qeR] at hF
 refine zSR (zp1 rfl (zNSSR (zp1 rfl (qb ?_))))
 obtain ⟨o1, hF, hK1⟩ := qd hF
 refine qw (qP [(0, _), (1, _), (5, _)] ⟨rfl, rfl, rfl, trivial⟩ ?_)
 refine qH (fun m e w' => ∃ (i1 : Int) (i2 : Int), qbK a m i1 i2 = some o1 ∧ e = [(0, .slice p1 a.length k1), (1, .int .i64 i1), (5, .int .i64 i2)] ∧ SH w w' []) n ⟨_, _, hF, rfl, h⟩ ?_
 rintro m1 e1 w1 ⟨i1, i2, hF, rfl, h⟩
 rcases m1 with _ | m1
 ·rw [qbK] at hF
  cases hF
 rw [qbK] at hF
 refine zSSR (zp4 rfl (qb ?_))
 refine qr rfl hF ?_ ?_ <;> intro hF
 ·refine zKSB (zSSR (zp2 rfl ?_))
  obtain ⟨y1, hy1, hF⟩ := qd hF
  have he1 := qf hy1
  obtain ⟨b1, o_1, q1, cs2, hp1, hq1, -, hr1, hc2⟩ := s1.at hy1
  obtain rfl := hr1
  refine zxe hp1 hq1 he1 rfl (zc 0 (hc2.below h.below) rfl (zp2 rfl (qb ?_)))
  refine qr rfl hF ?_ ?_ <;> intro hF
  ·refine zSR (zp1 rfl (qb ?_))
   obtain rfl := qh hF; replace hF := hK1
   exact qaA qc h hF ⟨rfl, trivial⟩
  refine qdX (qB (zp3 rfl (zNER (zp3 rfl (qb ?_)))))
  exact qA m1 [(0, _), (1, _), (5, _)] (Nat.lt_succ_self m1) ⟨rfl, rfl, rfl, trivial⟩ ⟨_, _, hF, rfl, h⟩
 refine qG rfl ?_
 obtain rfl := qh hF; replace hF := hK1
 exact zSR (zp2 rfl (qb (qaA qc h hF ⟨rfl, trivial⟩)))

end Go.Fw


namespace Go.Fw
open Go

def qfe (x : qg) : Prop := rngI x.Kind ∧ rngI x.Value ∧ (rngL rngI) x.From ∧ (rngL rngI) x.Through ∧ (rngL rngI) x.To
def qbm (x : qg) : Nat := qay x.From + qay x.Through + qay x.To
structure qcJ (x : qg) : Prop where
  Kind : okI x.Kind
  Value : okI x.Value
  From : (okL okI) x.From
  Through : (okL okI) x.Through
  To : (okL okI) x.To
theorem qnb {x : qg} (h : qfe x) (w : qbm x ≤ 1048576) : qcJ x := ⟨h.1, h.2.1, qcZ (h.2.2.1) (by simp only [qbm] at w; omega), qcZ (h.2.2.2.1) (by simp only [qbm] at w; omega), qcZ (h.2.2.2.2) (by simp only [qbm] at w; omega)⟩
theorem qoI {a : qg} (h : qbm a ≤ 1048576) : Ev (fun n => qeu n a a) true := by
  unfold qeu
  simp only [qbm] at h
  exact Ev.ff qbT (Ev.ff qbT (Ev.bind (qdl (a := a.From) (by omega)) (Ev.ff rfl (Ev.bind (qdl (a := a.Through) (by omega)) (Ev.ff rfl (Ev.bind (qdl (a := a.To) (by omega)) (Ev.ff rfl (.done))))))))

def qbH (a : (List qg)) : Nat := a.length + (a.map fun x => qbm x).sum
theorem qmn {a : (List qg)} (h : (rngL qfe) a) (w : qbH a ≤ 1048576) : (okL qcJ) a :=
  ⟨by simp only [qbH] at w; omega, fun x hx => qnb (h.2 x hx) (by have := qcp (wt := fun x : qg => qbm x) hx; simp only [qbH] at w; omega)⟩
theorem qnv {a : (List qg)} (h : qbH a ≤ 1048576) : Ev (fun n => qfb n a a) true := by
  have hl : a.length ≤ 1048576 := by simp only [qbH] at h; omega
  unfold qfb
  exact Ev.ff (by simp) (Ev.bind (b := .nxt (a.length : Int)) (qid (eqf := qeu) (fun x hx => qoI (by have := qcp (wt := fun x : qg => qbm x) hx; simp only [qbH] at h; omega))
    (fun n => by simp only [qb9, qu (Nat.le_refl _), cond_false])
    (fun n j x hx => by
      have hj := (List.getElem?_eq_some_iff.1 hx).1
      simp only [qb9, qt hj, cond_true, qat hx, Option.bind_some, qq (show j < 9223372036854775807 by omega)])) .done)

theorem qol {a : qg} {left : Int} (h : qfe a) (h0 : 0 ≤ left) (h1 : left ≤ 1048576) : Sz (fun n => qex n a left) (fun r => r = left - (qbm a : Int)) := by
  unfold qex
  obtain ⟨h_0, h_1, h_2, h_3, h_4⟩ := h
  exact Sz.step (qeV (a := a.From) h_2 (by omega) (by omega)) fun r0 p0 q0 => Sz.step (qeV (a := a.Through) h_3 (by omega) (by omega)) fun r1 p1 q1 => Sz.step (qeV (a := a.To) h_4 (by omega) (by omega)) fun r2 p2 q2 => Sz.done p2 (by simp only [qbm]; omega)

theorem qnJ {a : (List qg)} {left : Int} (h : (rngL qfe) a) (h0 : 0 ≤ left) (h1 : left ≤ 1048576) : Sz (fun n => qgb n a left) (fun r => r = left - (qbH a : Int)) :=
  Sz.list (Lf := qbD a) (wt := fun x : qg => qbm x) (el := qex) h0 h1 h.1 (fun x hx left p q => qol (h.2 x hx) p q)
    (fun acc n => by simp only [qbD, qu (Nat.le_refl _), cond_false])
    (fun acc n j x hx => by
      have hj := (List.getElem?_eq_some_iff.1 hx).1
      have hl := h.1
      simp only [qbD, qt hj, cond_true, qat hx, Option.bind_some, qq (show j < 9223372036854775807 by omega)])
    (fun _ => rfl)

theorem qoB {a : qg} (h : qbm a ≤ 1048576) : Ev (fun n => qer n a) a := by
  unfold qer
  simp only [qbm] at h
  exact Ev.bind (qdm (a := a.From) (by omega)) (Ev.bind (qdm (a := a.Through) (by omega)) (Ev.bind (qdm (a := a.To) (by omega)) (.done)))

theorem qie {a : (List qg)} (h : qbH a ≤ 1048576) : Ev (fun n => qcu n a) a := by
  have hl : a.length ≤ 1048576 := by simp only [qbH] at h; omega
  unfold qcu
  exact Ev.bindN (qhJ (by omega)) (Ev.bind (b := (a, (a.length : Int))) (qib (cp := qer) (fun x hx => qoB (by have := qcp (wt := fun x : qg => qbm x) hx; simp only [qbH] at h; omega))
    (fun acc n => by simp only [qca, qu (Nat.le_refl _), cond_false])
    (fun acc n j x y hx hy => by
      have hj := (List.getElem?_eq_some_iff.1 hx).1
      simp only [qca, qt hj, cond_true, qat hx, qat hy, Option.bind_some, qq (show j < 9223372036854775807 by omega)])) .done)

end Go.Fw


namespace Go.Fw
open Go
set_option maxRecDepth 100000

theorem qox {b : qz} (h : blockB b = true) : Ev (fun n => qep n b) ((places b.Design).length : Int) := by
  unfold qep
  exact Ev.bind (qh5 (qa2 (qbX h))) (Ev.now (by rw [List.length_map]))

def plsB (b : qz) (xs : List Int) : Bool := decide (xs.length ≤ 4) && allN (fun j => inPl b (at0 xs j)) xs.length
def valB (k v : Int) : Bool := bif k == 1 then v == 0 else bif k == 2 then inI v 1 10 else bif (k == 3) || (k == 4) then inI v 0 1000000000 else false
def excB (b : qz) (e : qg) : Bool := (plsB b e.From && (plsB b e.Through && plsB b e.To)) && (valB e.Kind e.Value && (incB e.From && incB e.To))

theorem qjR {b : qz} {xs : List Int} {sorted : Bool} (h : blockB b = true) (hl : xs.length ≤ 1048576) : Ev (fun n => qeE n b xs sorted) (plsB b xs && (!sorted || incB xs)) := by
  have hpl := qcr (qa2 (qbX h))
  have hL : Ev (fun n => qbB b xs sorted n 0) (bif allN (fun j => inPl b (at0 xs j) && (!sorted || stepB xs j)) xs.length then .nxt (xs.length : Int) else .ret false) := by
    refine qfg ?_ (fun j hj X hX => Ev.succ ?_)
    · exact Ev.succ (by simp only [qbB, qu (Nat.le_refl _), cond_false]; exact .done)
    · simp only [qbB, qt hj, cond_true, qbx hj, Option.bind_some, qeK, qq (show j < 9223372036854775807 by omega)]
      refine Ev.bind (qox h) ?_
      rw [qco (show (places b.Design).length ≤ 9223372036854775807 by omega)]
      simp only [qbz]
      refine Ev.okP (a := inPl b (at0 xs j)) fun _ => ?_
      cases sorted
      · exact hX
      · refine Ev.tt rfl ?_
        unfold stepB
        by_cases h0 : j = 0
        · subst h0
          exact Ev.ff (by decide) hX
        · refine Ev.tt (by simp; omega) ?_
          simp only [show (j : Int) - 1 = ((j - 1 : Nat) : Int) by omega, qbt (show -9223372036854775808 ≤ ((j - 1 : Nat) : Int) by omega) (by omega), qbx (show j - 1 < xs.length by omega), Option.bind_some]
          rw [show decide (at0 xs (j - 1) ≥ at0 xs j) = !decide (at0 xs (j - 1) < at0 xs j) by rw [Bool.eq_iff_iff]; simp, show decide (j = 0) = false by simp; omega]
          simp only [qbz, Bool.not_true, Bool.false_or]
          exact Ev.okP1 fun _ => hX
  unfold qeE
  have e : (plsB b xs && (!sorted || incB xs)) = (allN (fun j => inPl b (at0 xs j) && (!sorted || stepB xs j)) xs.length && decide (xs.length ≤ 4)) := by
    unfold plsB incB
    rw [qiY]
    cases sorted
    · simp only [Bool.not_false, Bool.true_or, Bool.and_true]
      rw [show allN (fun _ => true) xs.length = true from qaZ.2 (fun _ _ => rfl), Bool.and_true, Bool.and_comm]
    · simp only [Bool.not_true, Bool.false_or]
      rw [Bool.and_assoc, Bool.and_comm]
  rw [e]
  refine Ev.bind hL ?_
  cases allN (fun j => inPl b (at0 xs j) && (!sorted || stepB xs j)) xs.length
  · exact .done
  · refine Ev.now ?_
    show some (decide ((xs.length : Int) ≤ ((4 : Nat) : Int))) = some (true && decide (xs.length ≤ 4))
    rw [qjJ, Bool.true_and]

theorem qpD {n : Nat} {k v : Int} : qhO n k v = some (valB k v) := by
  simp only [qhO, qev, Option.bind_some]
  unfold valB
  cases (k == 1) <;> cases (k == 2) <;> cases (k == 3) <;> cases (k == 4) <;> rfl

theorem qmM {b : qz} {V : Tview} {e : qg} (h : blockB b = true) (hP : V.places = places b.Design) (he : qcJ e) : Ev (fun n => qdy n (some V) e) (excB b e) := by
  have hpl := qcr (qa2 (qbX h))
  have one : ∀ xs : List Int, xs.length ≤ 1048576 → ∀ {F : Nat → Option (Flow Bool Int)} {X : Flow Bool Int}, Ev F X →
      Ev (fun n => bif decide ((xs.length : Int) > 4) then some (.ret false) else (qby n xs 0 (((places b.Design).length : Int) - 1)).bind fun r2 => bif (!r2) then some (.ret false) else F n) (bif plsB b xs then X else .ret false) := by
    intro xs hx F X hX
    unfold plsB
    rw [show decide ((xs.length : Int) > 4) = !decide (xs.length ≤ 4) from qjI (k := 4)]
    simp only [qbz]
    refine Ev.okP fun _ => Ev.ok1 ((qe7 hx).cast (by rw [qgW (d := 0)]; rfl)) fun _ => hX
  have hL : Ev (fun n => qah (some V) e n 0) (bif plsB b e.From then (bif plsB b e.Through then (bif plsB b e.To then .nxt 3 else .ret false) else .ret false) else .ret false) := by
    refine Ev.succ ?_
    simp only [qah, Option.bind_some, qbn, hP, qco (show (places b.Design).length ≤ 9223372036854775807 by omega)]
    refine one e.From he.From.len (F := fun n => qah (some V) e n 1) (Ev.succ ?_)
    simp only [qah, Option.bind_some, qbn, hP, qco (show (places b.Design).length ≤ 9223372036854775807 by omega)]
    refine one e.Through he.Through.len (F := fun n => qah (some V) e n 2) (Ev.succ ?_)
    simp only [qah, Option.bind_some, qbn, hP, qco (show (places b.Design).length ≤ 9223372036854775807 by omega)]
    refine one e.To he.To.len (F := fun n => qah (some V) e n 3) (Ev.succ ?_)
    exact .done
  unfold qdy excB
  refine Ev.bind hL ?_
  cases plsB b e.From
  · exact .done
  · cases plsB b e.Through
    · exact .done
    · cases plsB b e.To
      · exact .done
      · simp only [cond_true, qpD, Option.bind_some, Bool.and_self, Bool.true_and]
        exact Ev.andP fun _ => Ev.and (qiy he.From.len) fun _ => Ev.last (qiy he.To.len)

theorem qmf {b : qz} {e : qg} (hok : qfT b) (he : qcJ e) : Ev (fun n => qfq n b e) (blockB b && excB b e) := by
  have eq : (blockB b && excB b e) = ((blockB b && ((plsB b e.From && (!true || incB e.From)) && ((plsB b e.Through && (!false || incB e.Through)) && (plsB b e.To && (!true || incB e.To))))) && valB e.Kind e.Value) := by
    unfold excB
    generalize blockB b = a1
    generalize plsB b e.From = a2
    generalize plsB b e.Through = a3
    generalize plsB b e.To = a4
    generalize valB e.Kind e.Value = a5
    generalize incB e.From = a6
    generalize incB e.To = a7
    cases a1 <;> cases a2 <;> cases a3 <;> cases a4 <;> cases a5 <;> cases a6 <;> cases a7 <;> rfl
  rw [eq]
  unfold qfq
  refine Ev.guardB (Ev.or (qj6 hok) fun h => Ev.or (qjR h he.From.len) fun _ => Ev.or (qjR h he.Through.len) fun _ => Ev.neg (qjR h he.To.len)) fun _ => ?_
  simp only [qeK, Option.bind_some]
  unfold valB
  cases (e.Kind == 1) <;> cases (e.Kind == 2) <;> cases (e.Kind == 3) <;> cases (e.Kind == 4) <;> exact .done

end Go.Fw


namespace Go.Fw
open Go
set_option maxRecDepth 100000

/-! ### Data paths -/

def hasI (xs : List Int) (y : Int) : Bool := xs.any fun x => x == y
theorem qof {xs : List Int} {y : Int} (hl : xs.length ≤ 1048576) : Ev (fun n => qg6 n xs y) (ixL (fun x => x == y) xs) :=
  qe5 (fin := (xs.length : Int)) (Lf := qd3 xs y) (pf := fun _ x => some (x == y)) (fun _ _ => .done)
    (fun n => by simp only [qd3, qu (Nat.le_refl _), cond_false])
    (fun n j x hx => by
      have hj := (List.getElem?_eq_some_iff.1 hx).1
      simp only [qd3, qt hj, cond_true, qat hx, Option.bind_some, qq (show j < 9223372036854775807 by omega)])
    (fun n => by unfold qg6; congr 1; funext o; cases o <;> rfl)
theorem ql3 {xs : List Int} {y : Int} (hl : xs.length ≤ 1048576) : Ev (fun n => qcD n xs y) (hasI xs y) := by
  unfold qcD
  refine Ev.bind (b := ixL (fun x => y == x) xs) (qe5 (fin := (xs.length : Int)) (Lf := qbv xs y) (pf := fun _ x => some (y == x)) (fun _ _ => .done)
    (fun n => by simp only [qbv, qu (Nat.le_refl _), cond_false])
    (fun n j x hx => by
      have hj := (List.getElem?_eq_some_iff.1 hx).1
      simp only [qbv, qt hj, cond_true, qat hx, Option.bind_some, qq (show j < 9223372036854775807 by omega)])
    (fun n => by unfold qfD; congr 1; funext o; cases o <;> rfl)) (Ev.now ?_)
  rw [qiX]
  unfold hasI
  congr 2
  funext x
  rw [Bool.eq_iff_iff, beq_iff_eq, beq_iff_eq]
  exact eq_comm
theorem qrl {p : Int → Bool} {xs : List Int} : decide (ixL p xs < 0) = !xs.any p := by
  rw [← qiX, Bool.eq_iff_iff]; simp

def stepP (b : qz) (path : List Int) (j : Nat) : Bool := decide (j = 0) || hasI (succL b (at0 path (j - 1)).toNat) (at0 path j)
def dpathB (b : qz) (path : List Int) : Bool := lenB path 1 60 && (allN (fun j => inPl b (at0 path j)) path.length && allN (stepP b path) path.length)

theorem qnx {b : qz} {V : Tview} {path : List Int} (h : blockB b = true) (hV : V.Block = b) (hP : V.places = places b.Design) (hl : path.length ≤ 1048576) : Ev (fun n => qd6 n (some V) path) (dpathB b path) := by
  have hs := qa2 (qbX h)
  have hpl := qcr hs
  unfold qd6 dpathB
  simp only [qaB, qbn, qev, Option.bind_some, hP, qco (show (places b.Design).length ≤ 9223372036854775807 by omega), qbz]
  rw [← Bool.and_assoc, show inI (path.length : Int) 1 60 = lenB path 1 60 from qmD (lo := 1) (hi := 60)]
  refine Ev.guardB (Ev.orBP fun _ => Ev.neg ((qe7 hl).cast (by rw [qgW (d := 0)]; rfl))) fun hb => ?_
  rw [Bool.and_eq_true, qaZ] at hb
  obtain ⟨hlen, hin⟩ := hb
  have hlen' : 1 ≤ path.length := by unfold lenB at hlen; simp only [Bool.and_eq_true, decide_eq_true_eq] at hlen; exact hlen.1
  have hL := qoD (Lf := qbc (some V) path) (len := path.length) (i0 := 1) (f := stepP b path) (bad := false) (fin := .nxt (path.length : Int)) hlen'
    (Ev.succ (by simp only [qbc, qu (Nat.le_refl _), cond_false]; exact .done))
    (fun j h1 hj X hX => Ev.succ (by
      have hp : inPl b (at0 path (j - 1)) = true := hin (j - 1) (by omega)
      unfold inPl at hp
      rw [qdg] at hp
      have ep := qkW hp.1
      simp only [qbc, qt hj, cond_true, show (j : Int) - 1 = ((j - 1 : Nat) : Int) by omega, qbt (show -9223372036854775808 ≤ ((j - 1 : Nat) : Int) by omega) (by omega), qq (show j < 9223372036854775807 by omega), qbx (show j - 1 < path.length by omega), qbx hj, Option.bind_some]
      unfold stepP
      rw [show decide (j = 0) = false by simp; omega, Bool.false_or]
      refine Ev.bind (b := succL b (at0 path (j - 1)).toNat) ?_ ?_
      · have := qnN h hV hP (j := (at0 path (j - 1)).toNat) (by omega)
        rw [← ep] at this
        exact this
      · exact Ev.chk1 (ql3 (by have := qnS h (j := (at0 path (j - 1)).toNat); omega)) fun _ => hX))
  have e : allN (fun j => stepP b path (1 + j)) (path.length - 1) = allN (stepP b path) path.length := by
    rw [Bool.eq_iff_iff, qaZ, qaZ]
    constructor
    · intro h j hj
      cases j with
      | zero => rfl
      | succ j => have := h j (by omega); rwa [Nat.add_comm] at this
    · intro h j hj
      exact h (1 + j) (by omega)
  rw [e] at hL
  refine Ev.bind hL ?_
  cases allN (stepP b path) path.length <;> exact .done

theorem qmR {b : qz} {path : List Int} (hok : qfT b) (hl : path.length ≤ 1048576) : Ev (fun n => qfS n b path) (blockB b && dpathB b path) := by
  unfold qfS dpathB
  rw [← Bool.and_assoc, ← qiY]
  refine Ev.guardB ?_ fun hb => ?_
  · unfold lenB
    rw [show decide ((path.length : Int) < 1) = !decide (1 ≤ path.length) from qqp (k := 1), show decide ((path.length : Int) > 60) = !decide (path.length ≤ 60) from qjI (k := 60)]
    refine Ev.or (qj6 hok) fun _ => ?_
    simp only [qbz]
    exact Ev.orBP fun _ => .done
  · rw [Bool.and_eq_true] at hb
    have h := hb.1
    have hs := qa2 (qbX h)
    have hpl := qcr hs
    have hL : Ev (fun n => qbs b path n 0) (bif allN (fun j => inPl b (at0 path j) && stepP b path j) path.length then .nxt (path.length : Int) else .ret false) := by
      refine loopN (τ := Unit) (Lf := fun n _ j => qbs b path n j) (S := fun _ => ()) (fun j => inPl b (at0 path j) && stepP b path j) (fun n => ?_) (fun j hj hp X hX => ?_)
      · simp only [qbs, qu (Nat.le_refl _), cond_false]
      · simp only [qbs, qt hj, cond_true, qbx hj, Option.bind_some, qeK, qq (show j < 9223372036854775807 by omega)]
        have e1 : Ev (fun n => qep n b) ((places b.Design).length : Int) := by
          unfold qep
          exact Ev.bind (qh5 hs) (Ev.now (by rw [List.length_map]))
        refine Ev.bind e1 ?_
        rw [qco (show (places b.Design).length ≤ 9223372036854775807 by omega)]
        simp only [qbz]
        refine Ev.okP fun hin => ?_
        have hX := fun hst => hX (by rw [Bool.and_eq_true]; exact ⟨hin, hst⟩)
        unfold stepP at hX ⊢
        by_cases h0 : j = 0
        · subst h0
          refine Ev.ff (by decide) ?_
          exact hX rfl
        · have hq := hp (j - 1) (by omega)
          rw [Bool.and_eq_true] at hq
          have hq := hq.1
          unfold inPl at hq
          rw [qdg] at hq
          have ep := qkW hq.1
          rw [show decide (j = 0) = false by simp; omega, Bool.false_or] at hX ⊢
          refine Ev.tt (by simp; omega) ?_
          rw [qco (show j ≤ 9223372036854775807 by omega), show (j : Int) - 1 = ((j - 1 : Nat) : Int) by omega, qbx (show j - 1 < path.length by omega)]
          simp only [Option.bind_some]
          refine Ev.bind (b := succL b (at0 path (j - 1)).toNat) ?_ (Ev.bind (qof (by have := qnS h (j := (at0 path (j - 1)).toNat); omega)) ?_)
          · have := qpm hok h (j := (at0 path (j - 1)).toNat) (by omega)
            rw [← ep] at this
            exact this
          · rw [qrl]
            simp only [qbz]
            exact Ev.okP1 hX
    refine Ev.bind hL ?_
    cases allN (fun j => inPl b (at0 path j) && stepP b path j) path.length <;> exact .done


/-! ### Tags -/

instance : Inhabited qg := ⟨⟨0, 0, [], [], []⟩⟩
def stepT (e : qg) (found place : Int) : Int := bif decide (found ≥ 0) && (decide (found < (e.Through.length : Int)) && (at0 e.Through found.toNat == place)) then found + 1 else found
def fromB (e : qg) (p : Int) : Bool := decide (e.From.length = 0) || hasI e.From p
def beginT (e : qg) (p : Int) : Int := bif fromB e p then stepT e 0 p else -1
def runT (e : qg) (path : List Int) : Int := (path.drop 1).foldl (stepT e) (beginT e (at0 path 0))
theorem qqN {e : qg} {p : Int} : stepT e (-1) p = -1 := rfl
theorem qqn {e : qg} {found p : Int} (hl : e.Through.length ≤ 1048576) : Ev (fun n => qct n e found p) (stepT e found p) := by
  unfold qct stepT
  simp only [qaB, Option.bind_some]
  cases h1 : decide (found ≥ 0)
  · exact .done
  · cases h2 : decide (found < (e.Through.length : Int))
    · exact .done
    · have h1 := of_decide_eq_true h1
      have h2 := of_decide_eq_true h2
      simp only [cond_true, Bool.true_and]
      obtain ⟨k, rfl⟩ : ∃ k : Nat, found = (k : Int) := ⟨found.toNat, by omega⟩
      rw [qbx (show k < e.Through.length by omega), Int.toNat_natCast]
      simp only [Option.bind_some]
      cases (at0 e.Through k == p)
      · exact .done
      · exact Ev.now (by rw [qbt (by omega) (by omega)]; rfl)
theorem qrd {e : qg} {p : Int} (he : qcJ e) : Ev (fun n => qdT n e p) (beginT e p) := by
  unfold qdT beginT fromB
  have hs := qqn (found := 0) (p := p) he.Through.len
  by_cases h0 : e.From.length = 0
  · exact Ev.ff (by simp [h0]) (by rw [decide_eq_true h0]; exact Ev.bind hs .done)
  · refine Ev.tt (by simp; omega) ?_
    rw [decide_eq_false h0, Bool.false_or]
    refine Ev.bind (ql3 he.From.len) ?_
    cases hasI e.From p
    · exact .done
    · exact Ev.ff rfl (Ev.bind hs .done)
theorem qqD {α : Type} {xs : List α} (h : 1 ≤ xs.length) : subS xs 1 (xs.length : Int) = some (xs.drop 1) := by
  unfold subS
  rw [if_pos ⟨by omega, by omega, by omega⟩]
  simp
theorem qqX {e : qg} {xs : List Int} {i0 : Int} {j : Nat} (h : j < xs.length) : stepT e ((xs.take j).foldl (stepT e) i0) (at0 xs j) = (xs.take (j + 1)).foldl (stepT e) i0 := by
  rw [List.take_succ_eq_append_getElem h, List.foldl_append]
  simp [at0, h]
theorem qqg {e : qg} {xs : List Int} {i0 : Int} (he : qcJ e) (hl : xs.length ≤ 1048576) : Ev (fun n => qdN e xs n i0 0) (xs.foldl (stepT e) i0, (xs.length : Int)) := by
  have := loopF (Lf := qdN e xs) (S := fun j => (xs.take j).foldl (stepT e) i0) (len := xs.length) (fin := (xs.foldl (stepT e) i0, (xs.length : Int)))
    (fun n => by simp only [qdN, qu (Nat.le_refl _), cond_false, List.take_length])
    (fun j hj X hX => by
      simp only [qdN, qt hj, cond_true, qbx hj, Option.bind_some, qq (show j < 9223372036854775807 by omega)]
      refine Ev.bind (qqn he.Through.len) ?_
      rw [qqX hj]
      exact hX)
  simpa using this
theorem qrx {es : List qg} {path : List Int} (he : okL qcJ es) (h1 : 1 ≤ path.length) (hl : path.length ≤ 1048576) : Ev (fun n => qiQ n es path) (es.map fun e => runT e path) := by
  have hes := he.len
  have hL : Ev (fun n => qdH es path n ([] : List Int) 0) (es.map (fun e => runT e path), (es.length : Int)) := by
    refine loopF (Lf := qdH es path) (S := fun j => (es.take j).map fun e => runT e path) (len := es.length) (fun n => ?_) (fun j hj X hX => ?_)
    · simp only [qdH, qu (Nat.le_refl _), cond_false, List.take_length]
    · have ha : appS ((es.take j).map fun e => runT e path) [runT (gt es j) path] = some ((es.take (j + 1)).map fun e => runT e path) := by
        rw [qen (by rw [List.length_map, List.length_take, List.length_singleton]; omega), qfN hj]
      have hd : (path.drop 1).length ≤ 1048576 := by rw [List.length_drop]; omega
      simp only [qdH, qt hj, cond_true, qas hj, Option.bind_some, qq (show j < 9223372036854775807 by omega), qqD h1, show idx path 0 = some (at0 path 0) from qbx (j := 0) (by omega)]
      refine Ev.bind (qrd (qiB he hj)) (Ev.bind (qqg (qiB he hj) hd) ?_)
      exact Ev.bindN ha hX
  unfold qiQ
  exact Ev.bind hL .done

theorem qqf {b : qz} {path : List Int} (h : dpathB b path = true) : 1 ≤ path.length ∧ path.length ≤ 60 := by
  unfold dpathB lenB at h
  simp only [Bool.and_eq_true, decide_eq_true_eq] at h
  exact h.1
end Go.Fw


namespace Go.Fw
open Go
set_option maxRecDepth 100000

/-- A marking: the counter grows, by no more than sixteen for each thing. -/
def Mk {σ : Type} (F : Nat → Option (Int × σ)) (k : Int) (w : Nat) : Prop := ∃ k' x, Ev F (k', x) ∧ k ≤ k' ∧ k' ≤ k + 16 * (w : Int)

theorem qo1 {α : Type} {t : List α} {j : Nat} {y : α} (h : j < t.length) : idx (setS t (j : Int) y) (j : Int) = some y := by
  rw [qgH (by rw [qip]; exact h), qra h]
theorem qoi {α : Type} {t : List α} {i : Int} {y z : α} : setS (setS t i y) i z = setS t i z := by
  unfold setS; rw [List.set_set]
theorem qnM {α : Type} {a : List α} {wt : α → Nat} {j : Nat} (h : j < a.length) : ((a.take (j + 1)).map wt).sum = ((a.take j).map wt).sum + wt a[j] := by
  rw [List.take_succ_eq_append_getElem h, List.map_append, List.sum_append]; simp
theorem qpf {α : Type} {a : List α} {wt : α → Nat} {j : Nat} : ((a.take j).map wt).sum ≤ (a.map wt).sum := by
  conv => rhs; rw [← List.take_append_drop j a]
  rw [List.map_append, List.sum_append]
  exact Nat.le_add_right _ _

theorem qgu {α : Type} {a : List α} {wt : α → Nat} {Lf : Nat → List α → Int → Int → Option (List α × Int × Int)} {F : Nat → Option (Int × List α)} {k : Int} (hk0 : 0 ≤ k) (hk1 : k + 16 * ((a.length + (a.map wt).sum : Nat) : Int) ≤ 1000000000000)
    (hend : ∀ n t k, Lf (n + 1) t k (a.length : Int) = some (t, k, (a.length : Int)))
    (hstep : ∀ x, x ∈ a → ∀ k : Int, 0 ≤ k → k + 16 * ((1 + wt x : Nat) : Int) ≤ 1000000000000 → ∃ y k', k ≤ k' ∧ k' ≤ k + 16 * ((1 + wt x : Nat) : Int) ∧
      ∀ (t : List α) (j : Nat), j < 9223372036854775807 → j < a.length → j < t.length → t[j]? = some x → ∀ X, Ev (fun n => Lf n (setS t (j : Int) y) k' ((j + 1 : Nat) : Int)) X → Ev (fun n => Lf (n + 1) t k (j : Int)) X)
    (hl : a.length ≤ 1048576)
    (hF : ∀ n, F n = (Lf n a k 0).bind fun o => match o with | (x1, i1, _) => some (i1, x1)) : Mk F k (a.length + (a.map wt).sum) := by
  obtain ⟨⟨t, k'⟩, ⟨_, _, h3, h4⟩, e⟩ := loopE (τ := List α × Int) (Lf := fun n t j => Lf n t.1 t.2 j) (fin := fun t => (t.1, t.2, (a.length : Int)))
    (fun j t => t.1.length = a.length ∧ (∀ i, j ≤ i → t.1[i]? = a[i]?) ∧ k ≤ t.2 ∧ t.2 ≤ k + 16 * ((j + ((a.take j).map wt).sum : Nat) : Int)) (len := a.length)
    (fun n t => hend n t.1 t.2)
    (fun j t hj ht => by
      obtain ⟨h1, h2, h3, h4⟩ := ht
      have hs := qnM (wt := wt) hj
      have hs2 := qpf (a := a) (wt := wt) (j := j + 1)
      obtain ⟨y, k', q1, q2, q3⟩ := hstep a[j] (List.getElem_mem hj) t.2 (by omega) (by omega)
      refine ⟨(setS t.1 (j : Int) y, k'), ⟨by rw [qip]; exact h1, fun i hi => ?_, by show k ≤ k'; omega, ?_⟩, fun X hX => ?_⟩
      · show (t.1.set _ _)[i]? = _
        rw [List.getElem?_set_ne (by rw [Int.toNat_natCast]; omega)]
        exact h2 i (by omega)
      · show k' ≤ k + _
        rw [hs]
        omega
      · exact q3 t.1 j (by omega) hj (by omega) (by rw [h2 j (Nat.le_refl _), List.getElem?_eq_getElem hj]) X hX) 0 (Nat.zero_le _) (a, k) ⟨rfl, fun _ _ => rfl, Int.le_refl _, by show k ≤ k + _; omega⟩
  rw [List.take_length] at h4
  exact ⟨k', t, Ev.congr hF (Ev.bind e .done), h3, h4⟩

theorem qrw {α : Type} {pre a : List α} {j : Nat} {y : α} (hp : pre.length = j) (hj : j < a.length) : setS (pre ++ a.drop j) (j : Int) y = (pre ++ [y]) ++ a.drop (j + 1) := by
  show (pre ++ a.drop j).set j y = _
  rw [List.set_append, if_neg (by omega), hp, Nat.sub_self, List.drop_eq_getElem_cons hj, List.set_cons_zero, List.append_assoc]
  rfl

def marked (k : Int) (m : Nat) : List Int := (List.range m).map fun (i : Nat) => k + (i : Int)
theorem qmS {a : List Int} {k : Int} (h0 : 0 ≤ k) (h1 : k ≤ 1000000000000) (hl : a.length ≤ 1048576) : Ev (fun n => qar n a k) (k + (a.length : Int), marked k a.length) := by
  have hL : Ev (fun n => qbL a n a k 0) (marked k a.length, k + (a.length : Int), (a.length : Int)) := by
    have := loopF (τ := List Int × Int) (Lf := fun n t j => qbL a n t.1 t.2 j) (S := fun j => (marked k j ++ a.drop j, k + (j : Int))) (len := a.length) (fin := (marked k a.length, k + (a.length : Int), (a.length : Int))) (fun n => by
        simp only [qbL, qu (Nat.le_refl _), cond_false, List.drop_length, List.append_nil])
      (fun j hj X hX => by
        have hp : (marked k j).length = j := by simp [marked]
        have hlt : j < (marked k j ++ a.drop j).length := by rw [List.length_append, hp, List.length_drop]; omega
        have hm : marked k (j + 1) = marked k j ++ [k + (j : Int)] := by unfold marked; rw [List.range_succ, List.map_append]; rfl
        simp only [qbL, qt hj, cond_true, qgH hlt, Option.bind_some, qrw hp hj, qq (show j < 9223372036854775807 by omega), qbt (show -9223372036854775808 ≤ k + (j : Int) + 1 by omega) (by omega)]
        rw [← hm]
        rw [show k + (j : Int) + 1 = k + ((j + 1 : Nat) : Int) by omega]
        exact hX)
    simpa [marked] using this
  unfold qar
  exact Ev.bind hL .done
theorem qdB {a : List Int} {k : Int} (h0 : 0 ≤ k) (h1 : k ≤ 1000000000000) (hl : qay a ≤ 1048576) : ∃ k' x, Ev (fun n => qar n a k) (k', x) ∧ k ≤ k' ∧ k' ≤ k + 16 * (qay a : Int) :=
  ⟨_, _, qmS h0 h1 hl, by omega, by unfold qay; omega⟩
theorem qsx {k : Int} {m : Nat} (h0 : 0 ≤ k) (h1 : k ≤ 1000000000000) (hl : m ≤ 1048576) : Ev (fun n => qeR n (marked k m) k) (k + (m : Int)) := by
  have hlen : (marked k m).length = m := by simp [marked]
  have hL : Ev (fun n => qbK (marked k m) n k 0) (.nxt (k + (m : Int), (m : Int))) := by
    have := loopF (Lf := qbK (marked k m)) (S := fun j => k + (j : Int)) (len := m) (fin := .nxt (k + (m : Int), (m : Int))) (fun n => by
        simp only [qbK, hlen, qu (Nat.le_refl _), cond_false])
      (fun j hj X hX => by
        have e : idx (marked k m) (j : Int) = some (k + (j : Int)) := by
          rw [qgH (by rw [hlen]; exact hj)]; simp [marked]
        simp only [qbK, hlen, qt hj, cond_true, e, Option.bind_some, bne_self_eq_false, cond_false, qq (show j < 9223372036854775807 by omega), qbt (show -9223372036854775808 ≤ k + (j : Int) + 1 by omega) (by omega)]
        rw [show k + (j : Int) + 1 = k + ((j + 1 : Nat) : Int) by omega]
        exact hX)
    simpa using this
  unfold qeR
  exact Ev.bind hL .done

theorem qqv {a b : ByteArray} (h : a.size + b.size ≤ 1000000) : catB a b = some (a ++ b) := by
  unfold catB
  rw [if_pos]
  show ((a.size + b.size : Nat) : Int) ≤ 9223372036854775807
  omega
theorem qn6 {x : IntK .u8} : (strOf [x]).size = 1 := rfl
theorem qih {k : Int} (hk : k ≤ 1000000000001000) : ∃ s, Ev (fun n => qdM n k) s := by
  have main : ∀ m : Nat, ∀ i1 : Int, ∀ z : ByteArray, 0 ≤ i1 → i1 ≤ 9000000000000000000 → i1 < 10 ^ m → z.size + m ≤ 1000 → ∃ o : Int × ByteArray, o.2.size ≤ 1000 ∧ Ev (fun n => qdG n i1 z) o := by
    intro m
    induction m with
    | zero =>
      intro i1 z h0 hb h1 hz
      have : i1 = 0 := by have : (10 : Int) ^ 0 = 1 := rfl; omega
      subst this
      exact ⟨(0, z), by show z.size ≤ 1000; omega, Ev.succ (Ev.ff (by decide) .done)⟩
    | succ m ih =>
      intro i1 z h0 hb h1 hz
      by_cases hp : i1 = 0
      · subst hp
        exact ⟨(0, z), by show z.size ≤ 1000; omega, Ev.succ (Ev.ff (by decide) .done)⟩
      · have hd : i1.tdiv 10 = i1 / 10 := Int.tdiv_eq_ediv_of_nonneg h0
        have h10 : (10 : Int) ^ (m + 1) = 10 ^ m * 10 := Int.pow_succ _ _
        have hc : catB (strOf ([(⟨IntKind.wrap .u8 (W64 (48 + (i1.tmod 10)))⟩ : IntK .u8)])) z = some (strOf ([(⟨IntKind.wrap .u8 (W64 (48 + (i1.tmod 10)))⟩ : IntK .u8)]) ++ z) := qqv (by rw [qn6]; omega)
        obtain ⟨o, ho, e⟩ := ih (i1 / 10) (strOf ([(⟨IntKind.wrap .u8 (W64 (48 + (i1.tmod 10)))⟩ : IntK .u8)]) ++ z) (by omega) (by omega) (by omega) (by rw [ByteArray.size_append, qn6]; omega)
        refine ⟨o, ho, Ev.succ ?_⟩
        simp only [qdG, show decide (i1 > 0) = true by simp; omega, cond_true, hc, Option.bind_some, hd, qbt (show -9223372036854775808 ≤ i1 / 10 by omega) (by omega)]
        exact e
  unfold qdM
  by_cases h0 : k ≤ 0
  · exact ⟨_, Ev.tt (by simpa using h0) .done⟩
  · obtain ⟨⟨o1, o2⟩, ho, e⟩ := main 16 k ⟨#[]⟩ (by omega) (by omega) (by have : (10 : Int) ^ 16 = 10000000000000000 := rfl; omega) (by decide)
    refine ⟨(⟨#[109]⟩ : ByteArray) ++ o2, Ev.ff (by simp; omega) (Ev.bind e ?_)⟩
    have ho : o2.size ≤ 1000 := ho
    show Ev (fun n => (catB ⟨#[109]⟩ o2).bind fun z3 => some z3) _
    rw [qqv (show (⟨#[109]⟩ : ByteArray).size + o2.size ≤ 1000000 by have : (⟨#[109]⟩ : ByteArray).size = 1 := rfl; omega)]
    exact .done

theorem qkR {a : (List qF)} {k : Int} (h0 : 0 ≤ k) (h1 : k + 16 * (qdz a : Int) ≤ 1000000000000) (hw : qdz a ≤ 1048576) : Mk (fun n => qfV n a k) k (qdz a) := by
  refine qgu (a := a) (wt := (fun x : qF => qem x)) h0 h1 (Lf := qb8 a) (fun n t k => by simp only [qb8, qu (Nat.le_refl _), cond_false]) (fun x hx k h0 h1 => ?_) (by simp only [qdz] at hw; omega) (fun _ => rfl)
  have hs := qcp (wt := (fun x : qF => qem x)) hx
  have ew : qem x = qay x.Slews + qay x.Loads + qay x.Values := rfl
  have hw : a.length + (a.map (fun x : qF => qem x)).sum ≤ 1048576 := hw
  simp only [ew] at hs h1 ⊢
  obtain ⟨k1, x1, q1, l1, u1⟩ := qdB (a := x.Slews) (k := k) (by omega) (by omega) (by omega)
  obtain ⟨k2, x2, q2, l2, u2⟩ := qdB (a := x.Loads) (k := k1) (by omega) (by omega) (by omega)
  obtain ⟨k3, x3, q3, l3, u3⟩ := qdB (a := x.Values) (k := k2) (by omega) (by omega) (by omega)
  refine ⟨⟨x1, x2, x3⟩, k3, by omega, by omega, fun t j hb hj ht hx X hX => ?_⟩
  simp only [qb8, qt hj, cond_true, qq hb]
  try simp only [qat hx, Option.bind_some]
  refine Ev.bind q1 ?_
  refine Ev.bind q2 ?_
  refine Ev.bind q3 ?_
  exact hX

theorem qo7 {a : (List qV)} {k : Int} (h0 : 0 ≤ k) (h1 : k + 16 * (qgG a : Int) ≤ 1000000000000) (hw : qgG a ≤ 1048576) : Mk (fun n => qic n a k) k (qgG a) := by
  refine qgu (a := a) (wt := (fun x : qV => qhS x)) h0 h1 (Lf := qc0 a) (fun n t k => by simp only [qc0, qu (Nat.le_refl _), cond_false]) (fun x hx k h0 h1 => ?_) (by simp only [qgG] at hw; omega) (fun _ => rfl)
  have hs := qcp (wt := (fun x : qV => qhS x)) hx
  have ew : qhS x = qdz x.Delay + qdz x.Slew := rfl
  have hw : a.length + (a.map (fun x : qV => qhS x)).sum ≤ 1048576 := hw
  simp only [ew] at hs h1 ⊢
  have e1 : W64 (k + 1) = k + 1 := qbt (by omega) (by omega)
  have e2 : W64 (k + 1 + 1) = k + 1 + 1 := qbt (by omega) (by omega)
  have e3 : W64 (k + 1 + 1 + 1) = k + 1 + 1 + 1 := qbt (by omega) (by omega)
  have e4 : W64 (k + 1 + 1 + 1 + 1) = k + 1 + 1 + 1 + 1 := qbt (by omega) (by omega)
  obtain ⟨k1, x1, q1, l1, u1⟩ := qkR (a := x.Delay) (k := k + 1 + 1 + 1 + 1) (by omega) (by omega) (by omega)
  obtain ⟨k2, x2, q2, l2, u2⟩ := qkR (a := x.Slew) (k := k1) (by omega) (by omega) (by omega)
  refine ⟨⟨k, k + 1, k + 1 + 1, k + 1 + 1 + 1, x1, x2⟩, k2, by omega, by omega, fun t j hb hj ht hx X hX => ?_⟩
  simp only [qc0, qt hj, cond_true, qq hb]
  try simp only [qat hx, Option.bind_some, e1, e2, e3, e4]
  refine Ev.bind q1 ?_
  refine Ev.bind q2 ?_
  exact hX

theorem qpl {a : (List qan)} {k : Int} (h0 : 0 ≤ k) (h1 : k + 16 * (qgF a : Int) ≤ 1000000000000) (hw : qgF a ≤ 1048576) : Mk (fun n => qif n a k) k (qgF a) := by
  refine qgu (a := a) (wt := (fun x : qan => qiP x)) h0 h1 (Lf := qcY a) (fun n t k => by simp only [qcY, qu (Nat.le_refl _), cond_false]) (fun x hx k h0 h1 => ?_) (by simp only [qgF] at hw; omega) (fun _ => rfl)
  have hs := qcp (wt := (fun x : qan => qiP x)) hx
  have ew : qiP x = x.Name.size := rfl
  have hw : a.length + (a.map (fun x : qan => qiP x)).sum ≤ 1048576 := hw
  simp only [ew] at hs h1 ⊢
  obtain ⟨s1, es1⟩ := qih (k := k) (by omega)
  have e1 : W64 (k + 1) = k + 1 := qbt (by omega) (by omega)
  have e2 : W64 (k + 1 + 1) = k + 1 + 1 := qbt (by omega) (by omega)
  have e3 : W64 (k + 1 + 1 + 1) = k + 1 + 1 + 1 := qbt (by omega) (by omega)
  have e4 : W64 (k + 1 + 1 + 1 + 1) = k + 1 + 1 + 1 + 1 := qbt (by omega) (by omega)
  refine ⟨⟨s1, k + 1, k + 1 + 1, ((k + 1 + 1 + 1).tmod 3) == 0⟩, k + 1 + 1 + 1 + 1, by omega, by omega, fun t j hb hj ht hx X hX => ?_⟩
  simp only [qcY, qt hj, cond_true, qq hb]
  try simp only [qat hx, qo1 ht, Option.bind_some, qoi]
  refine Ev.bind es1 ?_
  try simp only [e1, e2, e3, e4]
  exact hX

theorem qou {a : (List qC)} {k : Int} (h0 : 0 ≤ k) (h1 : k + 16 * (qfE a : Int) ≤ 1000000000000) (hw : qfE a ≤ 1048576) : Mk (fun n => qhv n a k) k (qfE a) := by
  refine qgu (a := a) (wt := (fun x : qC => qfp x)) h0 h1 (Lf := qcB a) (fun n t k => by simp only [qcB, qu (Nat.le_refl _), cond_false]) (fun x hx k h0 h1 => ?_) (by simp only [qfE] at hw; omega) (fun _ => rfl)
  have hs := qcp (wt := (fun x : qC => qfp x)) hx
  have ew : qfp x = x.Name.size + qgF x.Pins + qgG x.Arcs + qay x.Truth := rfl
  have hw : a.length + (a.map (fun x : qC => qfp x)).sum ≤ 1048576 := hw
  simp only [ew] at hs h1 ⊢
  obtain ⟨s1, es1⟩ := qih (k := k) (by omega)
  have e1 : W64 (k + 1) = k + 1 := qbt (by omega) (by omega)
  have e2 : W64 (k + 1 + 1) = k + 1 + 1 := qbt (by omega) (by omega)
  obtain ⟨k2, x2, q2, l2, u2⟩ := qpl (a := x.Pins) (k := k + 1 + 1) (by omega) (by omega) (by omega)
  obtain ⟨k3, x3, q3, l3, u3⟩ := qo7 (a := x.Arcs) (k := k2) (by omega) (by omega) (by omega)
  obtain ⟨k4, x4, q4, l4, u4⟩ := qdB (a := x.Truth) (k := k3) (by omega) (by omega) (by omega)
  have e3 : W64 (k4 + 1) = k4 + 1 := qbt (by omega) (by omega)
  have e4 : W64 (k4 + 1 + 1) = k4 + 1 + 1 := qbt (by omega) (by omega)
  refine ⟨⟨s1, k + 1, x2, x3, x4, k4, k4 + 1⟩, k4 + 1 + 1, by omega, by omega, fun t j hb hj ht hx X hX => ?_⟩
  simp only [qcB, qt hj, cond_true, qq hb]
  try simp only [qat hx, Option.bind_some]
  refine Ev.bind es1 ?_
  try simp only [e1, e2]
  refine Ev.bind q2 ?_
  refine Ev.bind q3 ?_
  refine Ev.bind q4 ?_
  try simp only [e3, e4]
  exact hX

theorem qmJ {a : qv} {k : Int} (h0 : 0 ≤ k) (h1 : k + 16 * (qeq a : Int) ≤ 1000000000000) (hw : qeq a ≤ 1048576) : Mk (fun n => qfy n a k) k (qeq a) := by
  simp only [qeq] at h1 hw ⊢
  obtain ⟨k1, x1, q1, l1, u1⟩ := qou (a := a.Cells) (k := k) (by omega) (by omega) (by omega)
  refine ⟨k1, x1, ?_, by omega, by omega⟩
  unfold qfy
  exact Ev.bind q1 (.done)

theorem qlT {a : (List qm)} {k : Int} (h0 : 0 ≤ k) (h1 : k + 16 * (qb5 a : Int) ≤ 1000000000000) (hw : qb5 a ≤ 1048576) : Mk (fun n => qfP n a k) k (qb5 a) := by
  refine qgu (a := a) (wt := (fun x : qm => qbW x)) h0 h1 (Lf := qbu a) (fun n t k => by simp only [qbu, qu (Nat.le_refl _), cond_false]) (fun x hx k h0 h1 => ?_) (by simp only [qb5] at hw; omega) (fun _ => rfl)
  have hs := qcp (wt := (fun x : qm => qbW x)) hx
  have ew : qbW x = x.Name.size + qay x.Nets := rfl
  have hw : a.length + (a.map (fun x : qm => qbW x)).sum ≤ 1048576 := hw
  simp only [ew] at hs h1 ⊢
  obtain ⟨s1, es1⟩ := qih (k := k) (by omega)
  have e1 : W64 (k + 1) = k + 1 := qbt (by omega) (by omega)
  have e2 : W64 (k + 1 + 1) = k + 1 + 1 := qbt (by omega) (by omega)
  obtain ⟨k2, x2, q2, l2, u2⟩ := qdB (a := x.Nets) (k := k + 1 + 1) (by omega) (by omega) (by omega)
  refine ⟨⟨s1, k + 1, x2⟩, k2, by omega, by omega, fun t j hb hj ht hx X hX => ?_⟩
  simp only [qbu, qt hj, cond_true, qq hb]
  try simp only [qat hx, Option.bind_some]
  refine Ev.bind es1 ?_
  try simp only [e1, e2]
  refine Ev.bind q2 ?_
  exact hX

theorem qmW {a : (List ByteArray)} {k : Int} (h0 : 0 ≤ k) (h1 : k + 16 * (qes a : Int) ≤ 1000000000000) (hw : qes a ≤ 1048576) : Mk (fun n => qgx n a k) k (qes a) := by
  refine qgu (a := a) (wt := (fun x : ByteArray => x.size)) h0 h1 (Lf := qbR a) (fun n t k => by simp only [qbR, qu (Nat.le_refl _), cond_false]) (fun x hx k h0 h1 => ?_) (by simp only [qes] at hw; omega) (fun _ => rfl)
  obtain ⟨s, es⟩ := qih (k := k) (by omega)
  have e1 : W64 (k + 1) = k + 1 := qbt (by omega) (by omega)
  refine ⟨s, k + 1, by omega, by omega, fun t j hb hj ht hx X hX => ?_⟩
  simp only [qbR, qt hj, cond_true, e1, qq hb]
  refine Ev.bind es ?_
  try simp only [qat hx, Option.bind_some]
  exact hX

theorem qoC {a : (List qX)} {k : Int} (h0 : 0 ≤ k) (h1 : k + 16 * (qfG a : Int) ≤ 1000000000000) (hw : qfG a ≤ 1048576) : Mk (fun n => qhD n a k) k (qfG a) := by
  refine qgu (a := a) (wt := (fun x : qX => qg4 x)) h0 h1 (Lf := qcA a) (fun n t k => by simp only [qcA, qu (Nat.le_refl _), cond_false]) (fun x hx k h0 h1 => ?_) (by simp only [qfG] at hw; omega) (fun _ => rfl)
  have hs := qcp (wt := (fun x : qX => qg4 x)) hx
  have ew : qg4 x = x.Name.size := rfl
  have hw : a.length + (a.map (fun x : qX => qg4 x)).sum ≤ 1048576 := hw
  simp only [ew] at hs h1 ⊢
  obtain ⟨s1, es1⟩ := qih (k := k) (by omega)
  have e1 : W64 (k + 1) = k + 1 := qbt (by omega) (by omega)
  have e2 : W64 (k + 1 + 1) = k + 1 + 1 := qbt (by omega) (by omega)
  have e3 : W64 (k + 1 + 1 + 1) = k + 1 + 1 + 1 := qbt (by omega) (by omega)
  refine ⟨⟨s1, k + 1, k + 1 + 1⟩, k + 1 + 1 + 1, by omega, by omega, fun t j hb hj ht hx X hX => ?_⟩
  simp only [qcA, qt hj, cond_true, qq hb]
  try simp only [qat hx, qo1 ht, Option.bind_some, qoi]
  refine Ev.bind es1 ?_
  try simp only [e1, e2, e3]
  exact hX

theorem qno {a : qj} {k : Int} (h0 : 0 ≤ k) (h1 : k + 16 * (qeG a : Int) ≤ 1000000000000) (hw : qeG a ≤ 1048576) : Mk (fun n => qfZ n a k) k (qeG a) := by
  simp only [qeG] at h1 hw ⊢
  obtain ⟨k1, x1, q1, l1, u1⟩ := qlT (a := a.Instances) (k := k) (by omega) (by omega) (by omega)
  obtain ⟨k2, x2, q2, l2, u2⟩ := qmW (a := a.Nets) (k := k1) (by omega) (by omega) (by omega)
  obtain ⟨k3, x3, q3, l3, u3⟩ := qoC (a := a.Ports) (k := k2) (by omega) (by omega) (by omega)
  refine ⟨k3, (x1, x2, x3), ?_, by omega, by omega⟩
  unfold qfZ
  exact Ev.bind q1 (Ev.bind q2 (Ev.bind q3 (.done)))

theorem qoK {a : (List qS)} {k : Int} (h0 : 0 ≤ k) (h1 : k + 16 * (qfO a : Int) ≤ 1000000000000) (hw : qfO a ≤ 1048576) : Mk (fun n => qhG n a k) k (qfO a) := by
  refine qgu (a := a) (wt := (fun x : qS => qfB x)) h0 h1 (Lf := qcv a) (fun n t k => by simp only [qcv, qu (Nat.le_refl _), cond_false]) (fun x hx k h0 h1 => ?_) (by simp only [qfO] at hw; omega) (fun _ => rfl)
  have hs := qcp (wt := (fun x : qS => qfB x)) hx
  have ew : qfB x = qay x.Parent + qay x.Res + qay x.Cap + qay x.Sink := rfl
  have hw : a.length + (a.map (fun x : qS => qfB x)).sum ≤ 1048576 := hw
  simp only [ew] at hs h1 ⊢
  obtain ⟨k1, x1, q1, l1, u1⟩ := qdB (a := x.Parent) (k := k) (by omega) (by omega) (by omega)
  obtain ⟨k2, x2, q2, l2, u2⟩ := qdB (a := x.Res) (k := k1) (by omega) (by omega) (by omega)
  obtain ⟨k3, x3, q3, l3, u3⟩ := qdB (a := x.Cap) (k := k2) (by omega) (by omega) (by omega)
  obtain ⟨k4, x4, q4, l4, u4⟩ := qdB (a := x.Sink) (k := k3) (by omega) (by omega) (by omega)
  refine ⟨⟨x1, x2, x3, x4⟩, k4, by omega, by omega, fun t j hb hj ht hx X hX => ?_⟩
  simp only [qcv, qt hj, cond_true, qq hb]
  try simp only [qat hx, Option.bind_some]
  refine Ev.bind q1 ?_
  refine Ev.bind q2 ?_
  refine Ev.bind q3 ?_
  refine Ev.bind q4 ?_
  exact hX

theorem qoo {a : qz} {k : Int} (h0 : 0 ≤ k) (h1 : k + 16 * (qfJ a : Int) ≤ 1000000000000) (hw : qfJ a ≤ 1048576) : Mk (fun n => qgn n a k) k (qfJ a) := by
  simp only [qfJ] at h1 hw ⊢
  obtain ⟨k1, x1, q1, l1, u1⟩ := qmJ (a := a.Library) (k := k) (by omega) (by omega) (by omega)
  obtain ⟨k2, ⟨x2_0, x2_1, x2_2⟩, q2, l2, u2⟩ := qno (a := a.Design) (k := k1) (by omega) (by omega) (by omega)
  obtain ⟨k3, x3, q3, l3, u3⟩ := qoK (a := a.Wires) (k := k2) (by omega) (by omega) (by omega)
  refine ⟨k3, (x1, x2_0, x2_1, x2_2, x3), ?_, by omega, by omega⟩
  unfold qgn
  exact Ev.bind q1 (Ev.bind q2 (Ev.bind q3 (.done)))

theorem qlq {a : (List qg)} {k : Int} (h0 : 0 ≤ k) (h1 : k + 16 * (qbH a : Int) ≤ 1000000000000) (hw : qbH a ≤ 1048576) : Mk (fun n => qfl n a k) k (qbH a) := by
  refine qgu (a := a) (wt := (fun x : qg => qbm x)) h0 h1 (Lf := qbl a) (fun n t k => by simp only [qbl, qu (Nat.le_refl _), cond_false]) (fun x hx k h0 h1 => ?_) (by simp only [qbH] at hw; omega) (fun _ => rfl)
  have hs := qcp (wt := (fun x : qg => qbm x)) hx
  have ew : qbm x = qay x.From + qay x.Through + qay x.To := rfl
  have hw : a.length + (a.map (fun x : qg => qbm x)).sum ≤ 1048576 := hw
  simp only [ew] at hs h1 ⊢
  have e1 : W64 (k + 1) = k + 1 := qbt (by omega) (by omega)
  have e2 : W64 (k + 1 + 1) = k + 1 + 1 := qbt (by omega) (by omega)
  obtain ⟨k1, x1, q1, l1, u1⟩ := qdB (a := x.From) (k := k + 1 + 1) (by omega) (by omega) (by omega)
  obtain ⟨k2, x2, q2, l2, u2⟩ := qdB (a := x.Through) (k := k1) (by omega) (by omega) (by omega)
  obtain ⟨k3, x3, q3, l3, u3⟩ := qdB (a := x.To) (k := k2) (by omega) (by omega) (by omega)
  refine ⟨⟨k, k + 1, x1, x2, x3⟩, k3, by omega, by omega, fun t j hb hj ht hx X hX => ?_⟩
  simp only [qbl, qt hj, cond_true, qq hb]
  try simp only [qat hx, Option.bind_some, e1, e2]
  refine Ev.bind q1 ?_
  refine Ev.bind q2 ?_
  refine Ev.bind q3 ?_
  exact hX

end Go.Fw


namespace Go.Fw
open Go
set_option maxRecDepth 100000

/-! ### Codes -/

def codeX (b : qz) (es : List qg) : Int := bif blockB b then (bif decide (es.length ≤ 6) then (bif es.all (excB b) then 0 else 5) else 3) else 1
theorem qpL {b : qz} {es : List qg} (h : codeX b es = 0) : blockB b = true ∧ es.length ≤ 6 ∧ es.all (excB b) = true := by
  unfold codeX at h
  cases h1 : blockB b
  · rw [h1] at h; cases h
  · rw [h1] at h
    cases h2 : decide (es.length ≤ 6)
    · rw [h2] at h; cases h
    · rw [h2] at h
      cases h3 : es.all (excB b)
      · rw [h3] at h; cases h
      · exact ⟨rfl, of_decide_eq_true h2, rfl⟩
theorem qpR {b : qz} {es : List qg} (hok : qfT b) (hes : okL qcJ es) : Ev (fun n => qho n b es) (codeX b es) := by
  have hlen := hes.len
  unfold qho codeX
  refine Ev.chk1 (qj6 hok) fun h => ?_
  rw [show decide ((es.length : Int) > 6) = !decide (es.length ≤ 6) from qjI (k := 6)]
  simp only [qbz]
  refine Ev.okP1 fun _ => ?_
  have hL : Ev (fun n => qdv b es n 0) (bif es.all (excB b) then .nxt (es.length : Int) else .ret 5) := by
    rw [qia]
    refine qfg (Ev.succ ?_) (fun j hj X hX => Ev.succ ?_)
    · simp only [qdv, qu (Nat.le_refl _), cond_false]; exact .done
    · simp only [qdv, qt hj, cond_true, qas hj, Option.bind_some, qq (show j < 9223372036854775807 by omega)]
      have := qmf hok (qiB hes hj)
      rw [h, Bool.true_and] at this
      exact Ev.chk1 this fun _ => hX
  refine Ev.bind hL ?_
  cases es.all (excB b) <;> exact .done

theorem qrK {b : qz} {es : List qg} (hok : qfT b) (hes : okL qcJ es) :
    ∃ o, Ev (fun n => qeD n b es) (o, codeX b es) ∧ (codeX b es = 0 → ∃ ls lo de, o = some ⟨b, places b.Design, ls, lo, de, []⟩) := by
  have hlen := hes.len
  unfold qeD codeX
  cases h : blockB b
  · exact ⟨none, Ev.bind (qmP hok) (Ev.tt (by rw [h]; rfl) .done), fun h => by cases h⟩
  · have hb := qmP hok
    rw [h] at hb
    obtain ⟨ls, lo, de, ev⟩ := qpU h
    cases h6 : decide (es.length ≤ 6)
    · exact ⟨none, Ev.bind hb (Ev.ff rfl (Ev.tt (by rw [show decide ((es.length : Int) > 6) = !decide (es.length ≤ 6) from qjI (k := 6), h6]; rfl) .done)), fun h => by cases h⟩
    · have hc : Ev (fun n => qZ n es (some ⟨b, places b.Design, ls, lo, de, []⟩)) (!es.all (excB b)) := by
        unfold qZ
        refine Ev.bind (b := ixL (fun e => !excB b e) es) (qe5 (fin := (es.length : Int)) (Lf := qI es (some ⟨b, places b.Design, ls, lo, de, []⟩))
          (pf := fun n x => qdO n x (some ⟨b, places b.Design, ls, lo, de, []⟩)) (fun x hx => ?_)
          (fun n => by simp only [qI, qu (Nat.le_refl _), cond_false])
          (fun n j x hx => by
            have hj := (List.getElem?_eq_some_iff.1 hx).1
            simp only [qI, qt hj, cond_true, qat hx, Option.bind_some, qq (show j < 9223372036854775807 by omega)])
          (fun n => by unfold qax; congr 1; funext o; cases o <;> rfl)) (Ev.now ?_)
        · unfold qdO
          exact Ev.neg (qmM h rfl (hes.2 x hx))
        · rw [qiX, ← qlm, Bool.not_not]
      cases h3 : es.all (excB b)
      · rw [h3] at hc
        exact ⟨none, Ev.bind hb (Ev.ff rfl (Ev.ff (by rw [show decide ((es.length : Int) > 6) = !decide (es.length ≤ 6) from qjI (k := 6), h6]; rfl) (Ev.bind ev (Ev.bind hc .done)))), fun h => by cases h⟩
      · rw [h3] at hc
        exact ⟨_, Ev.bind hb (Ev.ff rfl (Ev.ff (by rw [show decide ((es.length : Int) > 6) = !decide (es.length ≤ 6) from qjI (k := 6), h6]; rfl) (Ev.bind ev (Ev.bind hc .done)))), fun _ => ⟨ls, lo, de, rfl⟩⟩

/-! ### Tags step by step -/

def stepTs (es : List qg) (tag : List Int) (p : Int) : List Int := (List.range es.length).map fun i => stepT (gt es i) (at0 tag i) p
def startTs (es : List qg) (p : Int) : List Int := es.map fun e => beginT e p
def pre {α : Type} (f : Nat → α) (j : Nat) : List α := (List.range j).map f
theorem qqq {α : Type} {f : Nat → α} {j : Nat} : (pre f j).length = j := by simp [pre]
theorem qrt {α : Type} {f : Nat → α} {j : Nat} : pre f j ++ [f j] = pre f (j + 1) := by unfold pre; rw [List.range_succ, List.map_append]; rfl
theorem qqi {α : Type} {f : Nat → α} {j : Nat} (h : j ≤ 1048576) : appS (pre f j) [f j] = some (pre f (j + 1)) := by
  rw [qen (by rw [qqq, List.length_singleton]; omega), qrt]
theorem qqu {α β : Type} [Inhabited α] {xs : List α} {f : α → β} : pre (fun i => f (gt xs i)) xs.length = xs.map f := by
  refine List.ext_getElem (by simp [pre]) fun i h1 h2 => ?_
  have hi : i < xs.length := by simpa [pre] using h1
  simp [pre, qiS hi]

theorem qpn {es : List qg} {tag : List Int} {p : Int} (hes : okL qcJ es) (ht : tag.length = es.length) : Ev (fun n => qgw n es tag p) (stepTs es tag p) := by
  have hl := hes.len
  have hL : Ev (fun n => qcb es tag p n ([] : List Int) 0) (stepTs es tag p, (es.length : Int)) := by
    refine loopF (Lf := qcb es tag p) (S := pre fun i => stepT (gt es i) (at0 tag i) p) (len := es.length) (fun n => ?_) (fun j hj X hX => ?_)
    · simp only [qcb, qu (Nat.le_refl _), cond_false]; rfl
    · have hT := (qiB hes hj).Through.len
      have hap := qqi (f := fun i => stepT (gt es i) (at0 tag i) p) (show j ≤ 1048576 by omega)
      have hst : stepT (gt es j) (at0 tag j) p = bif decide (at0 tag j ≥ 0) && (decide (at0 tag j < ((gt es j).Through.length : Int)) && (at0 (gt es j).Through (at0 tag j).toNat == p)) then at0 tag j + 1 else at0 tag j := rfl
      simp only [qcb, qt hj, cond_true, qas hj, qbx (show j < tag.length by omega), Option.bind_some, qq (show j < 9223372036854775807 by omega)]
      rw [hst] at hap
      cases h1 : decide (at0 tag j ≥ 0)
      · rw [h1] at hap
        exact Ev.bindN rfl (Ev.ff rfl (Ev.bindN hap hX))
      · cases h2 : decide (at0 tag j < ((gt es j).Through.length : Int))
        · rw [h1, h2] at hap
          exact Ev.bindN rfl (Ev.ff rfl (Ev.bindN hap hX))
        · have h1' := of_decide_eq_true h1
          have h2' := of_decide_eq_true h2
          obtain ⟨k, hk⟩ : ∃ k : Nat, at0 tag j = (k : Int) := ⟨(at0 tag j).toNat, by omega⟩
          rw [h1, h2, hk, Int.toNat_natCast] at hap
          rw [hk] at h2'
          rw [hk]
          simp only [cond_true, qbx (show k < (gt es j).Through.length by omega), Option.bind_some]
          cases h3 : (at0 (gt es j).Through k == p)
          · rw [h3] at hap
            exact Ev.ff rfl (Ev.bindN hap hX)
          · rw [h3] at hap
            rw [qbt (show -9223372036854775808 ≤ (k : Int) + 1 by omega) (by omega)]
            exact Ev.tt rfl (Ev.bindN hap hX)
  unfold qgw
  exact Ev.bind hL .done

theorem qqw {es : List qg} {p : Int} (hes : okL qcJ es) : Ev (fun n => qgT n es p) (startTs es p) := by
  have hl := hes.len
  have hL : Ev (fun n => qbO es p n ([] : List Int) 0) (pre (fun i => bif fromB (gt es i) p then 0 else -1) es.length, (es.length : Int)) := by
    refine loopF (Lf := qbO es p) (S := pre fun i => bif fromB (gt es i) p then 0 else -1) (len := es.length) (fun n => ?_) (fun j hj X hX => ?_)
    · simp only [qbO, qu (Nat.le_refl _), cond_false]
    · have hap := qqi (f := fun i => (bif fromB (gt es i) p then 0 else -1 : Int)) (show j ≤ 1048576 by omega)
      simp only [qbO, qt hj, cond_true, qas hj, Option.bind_some, qq (show j < 9223372036854775807 by omega)]
      refine Ev.bind (b := !fromB (gt es j) p) ?_ ?_
      · unfold fromB
        by_cases h0 : (gt es j).From.length = 0
        · exact Ev.ff (by simp [h0]) (Ev.now (by rw [decide_eq_true h0]; rfl))
        · refine Ev.tt (by simp; omega) ?_
          rw [decide_eq_false h0, Bool.false_or]
          exact Ev.bind (qof (qiB hes hj).From.len) (Ev.now (by rw [qrl]; rfl))
      · cases h3 : fromB (gt es j) p
        · simp only [h3, cond_false] at hap
          exact Ev.tt rfl (Ev.bindN hap hX)
        · simp only [h3, cond_true] at hap
          exact Ev.ff rfl (Ev.bindN hap hX)
  unfold qgT
  refine Ev.bind hL (Ev.bind (qpn hes (by rw [qqq])) (Ev.now ?_))
  congr 1
  unfold startTs
  rw [← qqu]
  unfold stepTs
  refine List.map_congr_left fun i hi => ?_
  have hi := List.mem_range.1 hi
  rw [show at0 (pre (fun i => (bif fromB (gt es i) p then 0 else -1 : Int)) es.length) i = bif fromB (gt es i) p then 0 else -1 by simp [at0, pre, hi]]
  unfold beginT
  cases fromB (gt es i) p
  · exact qqN
  · rfl

theorem qqC {e : qg} {path : List Int} {p : Int} (h : 1 ≤ path.length) : runT e (path ++ [p]) = stepT e (runT e path) p := by
  cases path with
  | nil => simp at h
  | cons q path =>
    unfold runT
    simp [List.foldl_append, at0]
def runTs (es : List qg) (path : List Int) : List Int := es.map fun e => runT e path
theorem qnP {es : List qg} {path : List Int} : (runTs es path).length = es.length := by simp [runTs]
theorem qpH {es : List qg} {path : List Int} {p : Int} (h : 1 ≤ path.length) : stepTs es (runTs es path) p = runTs es (path ++ [p]) := by
  unfold runTs
  rw [← qqu (f := fun e => runT e (path ++ [p]))]
  refine List.map_congr_left fun i hi => ?_
  have hi := List.mem_range.1 hi
  rw [qqC h]
  congr 1
  simp [at0, hi, qiS hi]

/-! ### Effects -/

/-! ### Tags that fit -/

end Go.Fw


namespace Go.Fw
open Go Go.Proofs
open Go.RowKit (Below)
set_option maxRecDepth 100000
set_option maxHeartbeats 1600000
def qdL (list : (List qg)) (path : (List Int)) : Nat → (List Int) → Int → Option ((List Int) × Int)
 | 0, _, _ => none
 | n + 1, x1, i1 =>
  bif decide (i1 < (path.length : Int)) then
   (idx path i1).bind fun y2 =>
   (qgw n list x1 y2).bind fun r4 =>
   qdL list path n r4 (W64 (i1 + 1))
  else
   some (x1, i1)

def qiU (n : Nat) (b : qz) (list : (List qg)) (path : (List Int)) : Option ((List Int) × Int) :=
 (qho n b list).bind fun r1 =>
 bif (r1 != 0) then
  some ([], r1)
 else
  (qfS n b path).bind fun r2 =>
  bif (!r2) then
   some ([], 2)
  else
   (idx path 0).bind fun y1 =>
   (qgT n list y1).bind fun r3 =>
   (qdL list path n r3 1).bind fun o => match o with
   | (x1, _) =>
    some (x1, 0)

theorem qnz {n : Nat} {w : World} {b : qz} {list : (List qg)} {path : (List Int)} {cs1 : List Value} (ha1 : GoT.R w (old w) b cs1) {cs2 : List Value} (ha2 : GoT.R w (old w) list cs2) {cs3 : List Value} (ha3 : GoT.R w (old w) path cs3) {r : ((List Int) × Int)} (hF : qiU n b list path = some r) : RetV Tryz.prog 30 [GoT.v qz cs1, GoT.v (List qg) cs2, GoT.v (List Int) cs3] w r := by
 obtain ⟨p1, k1, p2, k2, p3, k3, p4, k4, p5, k5, rfl, s1, s2, s3, s4, s5⟩ := qaq ha1
 obtain ⟨p6, k6, rfl, s6⟩ := ha2
 obtain ⟨p7, k7, rfl, s7⟩ := ha3
 refine qe Tryz.func30 rfl (m := 40) rfl rfl (fun h => ?_)
 rw [qiU] at hF
 refine zSR (qN h rfl rfl ?_)
 intro w1 bb1 h
 refine zp2 rfl (zNSR (zl 0 0 h rfl (zp1 rfl ?_)))
 obtain ⟨r1, hr1, hF⟩ := qd hF
 refine qR r1 h call62 (qmi (h.old ha1) ⟨_, _, rfl, (h.oldS s6)⟩ hr1) rfl rfl rfl rfl ?_
 intro w2 h
 refine zp1 rfl (zNSSR (zp2 rfl (qb ?_)))
 refine qr rfl hF ?_ ?_ <;> intro hF
 ·refine zSR (zp3 rfl (qb ?_))
  obtain rfl := qh hF
  exact qaj qc (ρ := ((List Int) × Int)) [GoT.v (List Int) [.slice none 0 0], GoT.v Int [.int .i64 r1]] h ⟨rfl, rfl, trivial⟩ (PV.done h (qfk h qkf (qap (qao (S := fun _ => False) rfl)) (by rfl)))
 refine zKSSR (zl 0 0 h rfl (zp1 rfl ?_))
 obtain ⟨r2, hr2, hF⟩ := qd hF
 refine qp r2 h call63 (qkZ (h.old ha1) ⟨_, _, rfl, (h.oldS s7)⟩ hr2) rfl rfl rfl rfl ?_
 intro w3 h
 refine zp1 rfl (qb ?_)
 refine qr rfl hF ?_ ?_ <;> intro hF
 ·refine zSR (zp2 rfl (qb ?_))
  obtain rfl := qh hF
  exact qaj qc (ρ := ((List Int) × Int)) [GoT.v (List Int) [.slice none 0 0], GoT.v Int [.int .i64 2]] h ⟨rfl, rfl, trivial⟩ (PV.done h (qfk h qkf (qap (qao (S := fun _ => False) rfl)) (by rfl)))
 refine zKSR (zp2 rfl ?_)
 obtain ⟨y1, hy1, hF⟩ := qd hF
 have he1 := qf hy1
 obtain ⟨b1, o_1, q1, cs4, hp1, hq1, -, hr3, hc3⟩ := s7.at hy1
 obtain rfl := hr3
 refine zxe hp1 hq1 he1 rfl (zc 0 (hc3.below h.below) rfl ?_)
 obtain ⟨r3, hr4, hF⟩ := qd hF
 refine qai r3 h call60 (qlQ ⟨_, _, rfl, (h.oldS s6)⟩ hr4) rfl rfl rfl rfl ?_
 intro w4 S1 p8 k8 h
 refine zp1 rfl (zNSSR (zp1 rfl (qb ?_)))
 obtain ⟨o1, hF, hK1⟩ := qd hF
 refine qw ?_
 replace h := h.pick [0] rfl
 refine qP [(1, _), (2, _), (9, _), (10, _)] ⟨rfl, rfl, rfl, rfl, trivial⟩ ?_
 refine qH (fun m e w' => ∃ (S2 : Nat → Prop) (p9 : Option Addr) (ln1 : Nat) (k9 : Nat) (x1 : (List Int)) (i1 : Int), qdL list path m x1 i1 = some o1 ∧ e = [(1, .slice p6 list.length k6), (2, .slice p7 path.length k7), (9, .slice p9 ln1 k9), (10, .int .i64 i1)] ∧ SH w w' [Ch.own S2 (x1 : List Int) [.slice p9 ln1 k9]]) n ⟨_, _, _, _, _, _, hF, rfl, h⟩ ?_
 rintro m1 e1 w5 ⟨S2, p9, ln1, k9, x1, i1, hF, rfl, h⟩
 obtain rfl := (h.sl 0 rfl).2
 rcases m1 with _ | m1
 ·rw [qdL] at hF
  cases hF
 rw [qdL] at hF
 refine zSSR (zp4 rfl (qb ?_))
 refine qr rfl hF ?_ ?_ <;> intro hF
 ·refine zKSBR (zp4 rfl ?_)
  obtain ⟨y2, hy2, hF⟩ := qd hF
  have he2 := qf hy2
  obtain ⟨b2, o_2, q2, cs5, hp2, hq2, -, hr5, hc5⟩ := s7.at hy2
  obtain rfl := hr5
  refine zxe hp2 hq2 he2 rfl (zc 0 (hc5.below h.below) rfl ?_)
  obtain ⟨r4, hr6, hF⟩ := qd hF
  refine qai r4 h call55 (qjV ⟨_, _, rfl, (h.oldS s6)⟩ (h.own 0 rfl) hr6) rfl rfl rfl rfl ?_
  intro w6 S3 p10 k10 h
  refine zp1 rfl (zNER (zp3 rfl (qb ?_)))
  replace h := h.pick [0] rfl
  exact qA m1 [(1, _), (2, _), (9, _), (10, _)] (Nat.lt_succ_self m1) ⟨rfl, rfl, rfl, rfl, trivial⟩ ⟨_, _, _, _, _, _, hF, rfl, h⟩
 refine qG rfl ?_
 obtain rfl := qh hF; replace hF := hK1
 refine zSR (zp3 rfl (qb ?_))
 obtain rfl := qh hF
 exact qaj qc (ρ := ((List Int) × Int)) [GoT.v (List Int) [.slice p9 x1.length k9], GoT.v Int [.int .i64 0]] h ⟨rfl, rfl, trivial⟩ (PV.done h (qfk h (qad 0 h rfl) (qap (qao (S := fun _ => False) rfl)) (by rfl)))

def qhY (n : Nat) (b : qz) (list : (List qg)) (path : (List Int)) : Option ((List Int) × Int) :=
 (qeD n b list).bind fun o => match o with
  | (r2, r3) =>
   bif (r3 != 0) then
    some ([], r3)
   else
    (qd6 n r2 path).bind fun r4 =>
    bif (!r4) then
     some ([], 2)
    else
     (qiQ n list path).bind fun r5 =>
     some (r5, 0)

theorem qkQ {n : Nat} {w : World} {b : qz} {list : (List qg)} {path : (List Int)} {cs1 : List Value} (ha1 : GoT.R w (old w) b cs1) {cs2 : List Value} (ha2 : GoT.R w (old w) list cs2) {cs3 : List Value} (ha3 : GoT.R w (old w) path cs3) {r : ((List Int) × Int)} (hF : qhY n b list path = some r) : RetV Tryz.prog 31 [GoT.v qz cs1, GoT.v (List qg) cs2, GoT.v (List Int) cs3] w r := by
 obtain ⟨p1, k1, p2, k2, p3, k3, p4, k4, p5, k5, rfl, s1, s2, s3, s4, s5⟩ := qaq ha1
 obtain ⟨p6, k6, rfl, s6⟩ := ha2
 obtain ⟨p7, k7, rfl, s7⟩ := ha3
 refine qe Tryz.func31 rfl (m := 28) rfl rfl (fun h => ?_)
 rw [qhY] at hF
 refine zSR (qN h rfl rfl ?_)
 intro w1 bb1 h
 refine zp2 rfl (zNSR (zl 0 0 h rfl (zp1 rfl ?_)))
 have hg1 : Rg (old w) w (old w) w := .start (fun _ h => h)
 obtain ⟨r1, hr1, hF⟩ := qd hF
 obtain ⟨r2, r3⟩ := r1
 refine qqm (r2, r3) hg1 h call66 (qj1 (hg1.regOld h) (hg1.inR h ha1) ⟨_, _, rfl, (hg1.inS h s6)⟩ hr1) rfl rfl rfl rfl ?_
 intro w2 us1 B1 hg2 hu1 hz1 hv1
 have hL1 := h.ext hu1.below
 have s8 := Up.S hg1 h hu1 s6
 have s9 := Up.S hg1 h hu1 s7
 have hb1 := h.below.trans (hu1.below.mono h.below.size)
 replace h := hz1
 obtain ⟨cs4, us2, rfl, hr2, hv2⟩ := qst hv1
 obtain ⟨p8, rfl, s10⟩ := qhn hr2
 obtain ⟨cs5, rfl, hr3⟩ := qlH hv2
 obtain rfl := hr3
 refine zp5 rfl (zNSB (zSR (zp2 rfl ?_)))
 refine zp1 rfl (qb ?_)
 refine qr rfl hF ?_ ?_ <;> intro hF
 ·refine zSR (zp3 rfl (qb ?_))
  replace h := h.unbase hg2.below (show NoD [] from trivial)
  obtain rfl := qh hF
  exact qaj qc (ρ := ((List Int) × Int)) [GoT.v (List Int) [.slice none 0 0], GoT.v Int [.int .i64 r3]] h ⟨rfl, rfl, trivial⟩ (PV.done h (qfk h qkf (qap (qao (S := fun _ => False) rfl)) (by rfl)))
 refine zSR (zp2 rfl ?_)
 obtain ⟨r4, hr4, hF⟩ := qd hF
 refine qp r4 h call67 (qjq (h.old (GoT.mono s10 hg2.old)) ⟨_, _, rfl, (h.oldS (s9.mono hg2.old))⟩ hr4) rfl rfl rfl rfl ?_
 intro w3 h
 refine zp2 rfl (qb ?_)
 refine qr rfl hF ?_ ?_ <;> intro hF
 ·refine zSR (zp2 rfl (qb ?_))
  replace h := h.unbase hg2.below (show NoD [] from trivial)
  obtain rfl := qh hF
  exact qaj qc (ρ := ((List Int) × Int)) [GoT.v (List Int) [.slice none 0 0], GoT.v Int [.int .i64 2]] h ⟨rfl, rfl, trivial⟩ (PV.done h (qfk h qkf (qap (qao (S := fun _ => False) rfl)) (by rfl)))
 refine zKE (zSR (zp2 rfl ?_))
 obtain ⟨r5, hr5, hF⟩ := qd hF
 refine qai r5 h call61 (qnr ⟨_, _, rfl, (h.oldS (s8.mono hg2.old))⟩ ⟨_, _, rfl, (h.oldS (s9.mono hg2.old))⟩ hr5) rfl rfl rfl rfl ?_
 intro w4 S1 p9 k8 h
 refine zp2 rfl (qb ?_)
 replace h := h.unbase hg2.below ⟨fun _ h => h, trivial⟩
 obtain rfl := qh hF
 exact qaj qc (ρ := ((List Int) × Int)) [GoT.v (List Int) [.slice p9 r5.length k8], GoT.v Int [.int .i64 0]] h ⟨rfl, rfl, trivial⟩ (PV.done h (qfk h (qad 0 h rfl) (qap (qao (S := fun _ => False) rfl)) (by rfl)))

def qf7 (n : Nat) (a_0 : qz) (a_1 : (List qg)) (a_2 : (List Int)) : Option Bool :=
 bif decide ((a_2.length : Int) > 1048576) then
  some true
 else
  (qhs n a_0 1048576).bind fun r1 =>
  bif decide (r1 < 0) then
   some true
  else
   (qgb n a_1 r1).bind fun r2 =>
   bif decide (r2 < 0) then
    some true
   else
    (qe4 n a_0).bind fun r3 =>
    (qcu n a_1).bind fun r4 =>
    (qaK n a_2).bind fun r5 =>
    (qiU n r3 r4 r5).bind fun o => match o with
     | (r7, r8) =>
      (qe4 n a_0).bind fun r9 =>
      (qcu n a_1).bind fun r10 =>
      (qaK n a_2).bind fun r11 =>
      (qhY n r9 r10 r11).bind fun o => match o with
       | (r13, r14) =>
        (
         (qaJ n r13 r7).bind fun r35 =>
         bif (!r35) then
          some true
         else
          some (r14 != r8)).bind fun b1 =>
        bif b1 then
         some false
        else
         (qe4 n a_0).bind fun r15 =>
         (qhE n r9 r15).bind fun r16 =>
         bif (!r16) then
          some false
         else
          (qcu n a_1).bind fun r17 =>
          (qfb n r10 r17).bind fun r18 =>
          bif (!r18) then
           some false
          else
           (qaK n a_2).bind fun r19 =>
           (qaJ n r11 r19).bind fun r20 =>
           bif (!r20) then
            some false
           else
            (qgn n (⟨(⟨r9.Library.Cells⟩ : qv), (⟨r9.Design.Instances, r9.Design.Nets, r9.Design.Ports⟩ : qj), r9.Wires⟩ : qz) 1).bind fun o => match o with
             | (r21, _, _, _, _, _) =>
              (qfl n r10 r21).bind fun o => match o with
               | (r22, _) =>
                (qar n r11 r22).bind fun o => match o with
                 | (r23, _) =>
                  (
                   bif decide (r23 < 0) then
                    some true
                   else
                    (qaJ n r13 r7).bind fun r34 =>
                    bif (!r34) then
                     some true
                    else
                     some (r14 != r8)).bind fun b2 =>
                  bif b2 then
                   some false
                  else
                   (qar n r13 1).bind fun o => match o with
                    | (r24, x8) =>
                     (qeR n x8 1).bind fun r25 =>
                     bif decide (r25 < 0) then
                      some false
                     else
                      bif (r25 != r24) then
                       some false
                      else
                       (qe4 n (⟨(⟨a_0.Library.Cells⟩ : qv), (⟨a_0.Design.Instances, a_0.Design.Nets, a_0.Design.Ports⟩ : qj), a_0.Wires⟩ : qz)).bind fun r26 =>
                       (qcu n a_1).bind fun r27 =>
                       (qaK n a_2).bind fun r28 =>
                       (qhY n r26 r27 r28).bind fun o => match o with
                        | (r30, r31) =>
                         (
                          (qaJ n r30 r7).bind fun r33 =>
                          bif (!r33) then
                           some true
                          else
                           some (r31 != r8)).bind fun b3 =>
                         bif b3 then
                          some false
                         else
                          (qeR n x8 1).bind fun r32 =>
                          bif decide (r32 < 0) then
                           some false
                          else
                           bif (r32 != r24) then
                            some false
                           else
                            some true

theorem qj5 {n : Nat} {w : World} {a_0 : qz} {a_1 : (List qg)} {a_2 : (List Int)} {cs1 : List Value} (ha1 : GoT.R w (old w) a_0 cs1) {cs2 : List Value} (ha2 : GoT.R w (old w) a_1 cs2) {cs3 : List Value} (ha3 : GoT.R w (old w) a_2 cs3) {r : Bool} (hF : qf7 n a_0 a_1 a_2 = some r) : RetV Tryz.prog 7 [GoT.v qz cs1, GoT.v (List qg) cs2, GoT.v (List Int) cs3] w r := by
 obtain ⟨p1, k1, p2, k2, p3, k3, p4, k4, p5, k5, rfl, s1, s2, s3, s4, s5⟩ := qaq ha1
 obtain ⟨p6, k6, rfl, s6⟩ := ha2
 obtain ⟨p7, k7, rfl, s7⟩ := ha3
 refine qe Tryz.func7 rfl (m := 140) rfl rfl (fun h => ?_)
 rw [qf7] at hF
 refine zSR (qN h rfl rfl ?_)
 intro w1 bb1 h
 refine zp1 rfl (zNSSR (zp3 rfl (qb ?_)))
 refine qr rfl hF ?_ ?_ <;> intro hF
 ·exact zSR (zp1 rfl (qb (qy qc h hF ⟨rfl, trivial⟩)))
 refine zKSR (zp1 rfl (zNSR (zl 0 0 h rfl (zp1 rfl ?_))))
 obtain ⟨r1, hr1, hF⟩ := qd hF
 refine qR r1 h call9 (qmz (h.old ha1) hr1) rfl rfl rfl rfl ?_
 intro w2 h
 refine zp1 rfl (zNSSR (zp2 rfl (qb ?_)))
 refine qr rfl hF ?_ ?_ <;> intro hF
 ·exact zSR (zp1 rfl (qb (qy qc h hF ⟨rfl, trivial⟩)))
 refine zKSR (zp2 rfl ?_)
 obtain ⟨r2, hr2, hF⟩ := qd hF
 refine qR r2 h call10 (qj2 ⟨_, _, rfl, (h.oldS s6)⟩ hr2) rfl rfl rfl rfl ?_
 intro w3 h
 refine zp1 rfl (zNSSR (zp2 rfl (qb ?_)))
 refine qr rfl hF ?_ ?_ <;> intro hF
 ·exact zSR (zp1 rfl (qb (qy qc h hF ⟨rfl, trivial⟩)))
 refine zKSR (zl 0 0 h rfl ?_)
 obtain ⟨r3, hr3, hF⟩ := qd hF
 refine qga r3 h call12 (qgZ (h.old ha1) hr3) rfl rfl rfl rfl ?_
 intro w4 S1 cs4 h
 obtain ⟨p8, k8, p9, k9, p10, k10, p11, k11, p12, k12, rfl, -, -, -, -, -⟩ := qaq (h.own 0 rfl)
 refine zp1 rfl ?_
 obtain ⟨r4, hr4, hF⟩ := qd hF
 refine qai r4 h call13 (qfc ⟨_, _, rfl, (h.oldS s6)⟩ hr4) rfl rfl rfl rfl ?_
 intro w5 S2 p13 k13 h
 refine zp1 rfl ?_
 obtain ⟨r5, hr5, hF⟩ := qd hF
 refine qai r5 h call14 (qaG ⟨_, _, rfl, (h.oldS s7)⟩ hr5) rfl rfl rfl rfl ?_
 intro w6 S3 p14 k14 h
 obtain ⟨r6, hr6, hF⟩ := qd hF
 obtain ⟨r7, r8⟩ := r6
 refine qh1 (r7, r8) h call30 (qnz (h.own 2 rfl) (h.own 1 rfl) (h.own 0 rfl) hr6) rfl rfl rfl rfl ?_
 intro w7 S4 us1 hv1 hr7
 obtain ⟨S5, S6, p15, k15, us2, rfl, hv2, hr8⟩ := hv1.consL hr7
 obtain ⟨rfl, h⟩ := hv2.lastI hr8
 refine zp5 rfl (zNSR (zl 4 0 h rfl ?_))
 obtain ⟨r9, hr10, hF⟩ := qd hF
 refine qga r9 h call12 (qgZ (h.old ha1) hr10) rfl rfl rfl rfl ?_
 intro w8 S8 cs5 h
 obtain ⟨p16, k16, p17, k17, p18, k18, p19, k19, p20, k20, rfl, -, -, -, -, -⟩ := qaq (h.own 0 rfl)
 refine qaa qc h rfl rfl rfl ?_
 intro w9 bb2 h
 refine zs 0 h rfl ?_
 intro w10 h
 refine zNSR (zp1 rfl ?_)
 obtain ⟨r10, hr11, hF⟩ := qd hF
 refine qai r10 h call13 (qfc ⟨_, _, rfl, (h.oldS s6)⟩ hr11) rfl rfl rfl rfl ?_
 intro w11 S9 p21 k21 h
 refine zp1 rfl (zNSR (zp1 rfl ?_))
 obtain ⟨r11, hr12, hF⟩ := qd hF
 refine qai r11 h call14 (qaG ⟨_, _, rfl, (h.oldS s7)⟩ hr12) rfl rfl rfl rfl ?_
 intro w12 S10 p22 k22 h
 refine zp1 rfl (zNSR (zl 2 0 h rfl (zp2 rfl ?_)))
 obtain ⟨r12, hr13, hF⟩ := qd hF
 obtain ⟨r13, r14⟩ := r12
 refine qh1 (r13, r14) h call31 (qkQ (h.own 3 rfl) (h.own 1 rfl) (h.own 0 rfl) hr13) rfl rfl rfl rfl ?_
 intro w13 S11 us3 hv4 hr14
 obtain ⟨S12, S13, p23, k23, us4, rfl, hv5, hr15⟩ := hv4.consL hr14
 obtain ⟨rfl, h⟩ := hv5.lastI hr15
 refine zp5 rfl (zNSS ?_)
 obtain ⟨KF3, hKF3, o7, hF, hK3⟩ := bindE hF
 refine qek (fun e w' => ∃ (b1 : Bool), KF3 b1 = some r ∧ e = [(1, .slice p6 a_1.length k6), (2, .slice p7 a_2.length k7), (3, .pointer (some ⟨bb1, 0, none⟩)), (8, .slice p15 r7.length k15), (9, .int .i64 r8), (10, .pointer (some ⟨bb2, 0, none⟩)), (11, .slice p21 r10.length k21), (12, .slice p22 r11.length k22), (13, .slice p23 r13.length k23), (14, .int .i64 r14), (64, .bool b1)] ∧ SH w w' [Ch.own S12 (r13 : List Int) [.slice p23 r13.length k23], Ch.own S10 (r11 : List Int) [.slice p22 r11.length k22], Ch.own S9 (r10 : List qg) [.slice p21 r10.length k21], Ch.box bb2 [.slice p16 r9.Library.Cells.length k16, .slice p17 r9.Design.Instances.length k17, .slice p18 r9.Design.Nets.length k18, .slice p19 r9.Design.Ports.length k19, .slice p20 r9.Wires.length k20] 50, Ch.own S8 (r9 : qz) [.slice p16 r9.Library.Cells.length k16, .slice p17 r9.Design.Instances.length k17, .slice p18 r9.Design.Nets.length k18, .slice p19 r9.Design.Ports.length k19, .slice p20 r9.Wires.length k20], Ch.own S5 (r7 : List Int) [.slice p15 r7.length k15], Ch.box bb1 [.slice p1 a_0.Library.Cells.length k1, .slice p2 a_0.Design.Instances.length k2, .slice p3 a_0.Design.Nets.length k3, .slice p4 a_0.Design.Ports.length k4, .slice p5 a_0.Wires.length k5] 32]) ?_ ?_
 ·refine qB (zp2 rfl ?_)
  obtain ⟨r35, hr38, hF⟩ := qd hF
  refine qp r35 h call19 (qaF (h.own 0 rfl) (h.own 5 rfl) hr38) rfl rfl rfl rfl ?_
  intro w35 h
  refine zp2 rfl ?_
  by_cases hc17 : (!r35) = true
  ·replace hF := bifT hc17 hF
   refine qE hc17 (t := 60) rfl (zn3 rfl (zp1 rfl (qb ?_)))
   replace h := h.pick [0, 1, 2, 3, 4, 5, 9] rfl
   obtain rfl := qh hF
   exact qx [(1, _), (2, _), (3, _), (8, _), (9, _), (10, _), (11, _), (12, _), (13, _), (14, _), (64, _)] ⟨rfl, rfl, rfl, rfl, rfl, rfl, rfl, rfl, rfl, rfl, rfl, trivial⟩ ⟨_, hK3, rfl, h⟩
  replace hc17 := zb hc17
  replace hF := bifF hc17 hF
  refine qD hc17 (t := 60) rfl (qa rfl (zp1 rfl (qa rfl (zp1 rfl (qa rfl (zp2 rfl (qb ?_)))))))
  replace h := h.pick [0, 1, 2, 3, 4, 5, 9] rfl
  obtain rfl := qh hF
  exact qx [(1, _), (2, _), (3, _), (8, _), (9, _), (10, _), (11, _), (12, _), (13, _), (14, _), (64, _)] ⟨rfl, rfl, rfl, rfl, rfl, rfl, rfl, rfl, rfl, rfl, rfl, trivial⟩ ⟨_, hK3, rfl, h⟩
 rintro e3 w36 ⟨b1, hF, rfl, h⟩
 subst hKF3
 refine qr rfl hF ?_ ?_ <;> intro hF
 ·exact zSR (zp1 rfl (qb (qy qc h hF ⟨rfl, trivial⟩)))
 refine zKSS ?_
 refine qge [] (fun w' => SH w w' [Ch.box bb2 [.slice p16 r9.Library.Cells.length k16, .slice p17 r9.Design.Instances.length k17, .slice p18 r9.Design.Nets.length k18, .slice p19 r9.Design.Ports.length k19, .slice p20 r9.Wires.length k20] 50, Ch.box bb1 [.slice p1 a_0.Library.Cells.length k1, .slice p2 a_0.Design.Instances.length k2, .slice p3 a_0.Design.Nets.length k3, .slice p4 a_0.Design.Ports.length k4, .slice p5 a_0.Wires.length k5] 32]) rfl 5 rfl #[ff, ff, ff, ff, ff] (by kernel_rfl) (fun w14 hb => ?_)
 replace h := h.ext hb
 clear hb
 refine ql 0 rfl #[tt, ff, ff, ff, ff] (by kernel_rfl) (by kernel_rfl) (fun w' hw => qbI qc (hw.box 0 rfl) (j := 0) rfl rfl rfl) (h.pick [3, 6] rfl) rfl ?_
 refine ql 1 rfl #[tt, tt, ff, ff, ff] (by kernel_rfl) (by kernel_rfl) (fun w' hw => qbI qc (hw.box 1 rfl) (j := 0) rfl rfl rfl) (h.pick [3, 6] rfl) rfl ?_
 refine qaI 2 rfl #[tt, tt, tt, ff, ff] (by kernel_rfl) (by kernel_rfl) ?_
 obtain ⟨r15, hr17, hF⟩ := qd hF
 refine qga r15 h call12 (qgZ (h.old ha1) hr17) rfl rfl rfl rfl ?_
 intro w15 S15 cs6 h
 obtain ⟨p24, k24, p25, k25, p26, k26, p27, k27, p28, k28, rfl, -, -, -, -, -⟩ := qaq (h.own 0 rfl)
 refine qaw (fun _ => (h.pick [4, 7] rfl)) ?_
 refine qaI 3 rfl #[tt, tt, tt, tt, ff] (by kernel_rfl) (by kernel_rfl) ?_
 obtain ⟨r16, hr18, hF⟩ := qd hF
 refine qp r16 h call17 (qml (h.own 5 rfl) (h.own 0 rfl) hr18) rfl rfl rfl rfl ?_
 intro w16 h
 refine qaw (fun _ => (h.pick [4, 7] rfl)) ?_
 refine ql 4 rfl #[tt, tt, tt, tt, tt] (by kernel_rfl) (by kernel_rfl) (fun w' hw => v_p qc rfl w') (h.pick [4, 7] rfl) rfl ?_
 refine qd4 (by kernel_rfl) ?_
 refine qr rfl hF ?_ ?_ <;> intro hF
 ·exact zSR (zp1 rfl (qb (qy qc h hF ⟨rfl, trivial⟩)))
 refine zKSSR (zp2 rfl ?_)
 obtain ⟨r17, hr19, hF⟩ := qd hF
 refine qai r17 h call13 (qfc ⟨_, _, rfl, (h.oldS s6)⟩ hr19) rfl rfl rfl rfl ?_
 intro w17 S16 p29 k29 h
 obtain ⟨r18, hr20, hF⟩ := qd hF
 refine qp r18 h call18 (qkh (h.own 4 rfl) (h.own 0 rfl) hr20) rfl rfl rfl rfl ?_
 intro w18 h
 refine zp1 rfl (qb ?_)
 refine qr rfl hF ?_ ?_ <;> intro hF
 ·exact zSR (zp1 rfl (qb (qy qc h hF ⟨rfl, trivial⟩)))
 refine zKSSR (zp2 rfl ?_)
 obtain ⟨r19, hr21, hF⟩ := qd hF
 refine qai r19 h call14 (qaG ⟨_, _, rfl, (h.oldS s7)⟩ hr21) rfl rfl rfl rfl ?_
 intro w19 S17 p30 k30 h
 obtain ⟨r20, hr22, hF⟩ := qd hF
 refine qp r20 h call19 (qaF (h.own 4 rfl) (h.own 0 rfl) hr22) rfl rfl rfl rfl ?_
 intro w20 h
 refine zp1 rfl (qb ?_)
 refine qr rfl hF ?_ ?_ <;> intro hF
 ·exact zSR (zp1 rfl (qb (qy qc h hF ⟨rfl, trivial⟩)))
 refine zKSR (zp1 rfl (zNSR (zl 6 0 h rfl (zp1 rfl ?_))))
 replace h := h.pick [7, 0, 1, 2, 3, 4, 5, 6, 8, 9] rfl
 obtain ⟨S18, S19, S20, h⟩ := qnq h
 replace h := h.pick [2, 0, 1, 3, 4, 5, 6, 7, 8, 9, 10, 11] rfl
 obtain ⟨S21, h⟩ := qmK h
 replace h := h.pick [2, 0, 1, 3, 4, 5, 6, 7, 8, 9, 10, 11] rfl
 obtain ⟨S22, S23, S24, h⟩ := qnL h
 replace h := h.pick [4, 0, 1, 2, 3, 8, 9, 10, 12, 13] rfl
 obtain ⟨o1, hr23, hF⟩ := qd hF
 obtain ⟨r21, x1, x2, x3, x4, x5⟩ := o1
 refine qch r21 call22 (qla h hr23) rfl rfl rfl rfl ?_
 rintro w21 ⟨S25, S26, S27, S28, S29, h⟩
 replace h : SH _ _ [Ch.own S29 (x5 : List qS) [.slice p20 r9.Wires.length k20], Ch.own S28 (x4 : List qX) [.slice p19 r9.Design.Ports.length k19], Ch.own S27 (x3 : List ByteArray) [.slice p18 r9.Design.Nets.length k18], Ch.own S26 (x2 : List qm) [.slice p17 r9.Design.Instances.length k17], Ch.own S25 (x1 : List qC) [.slice p16 r9.Library.Cells.length k16], Ch.own S12 (r13 : List Int) [.slice p23 r13.length k23], Ch.own S10 (r11 : List Int) [.slice p22 r11.length k22], Ch.own S9 (r10 : List qg) [.slice p21 r10.length k21], Ch.own S5 (r7 : List Int) [.slice p15 r7.length k15], Ch.box bb1 [.slice p1 a_0.Library.Cells.length k1, .slice p2 a_0.Design.Instances.length k2, .slice p3 a_0.Design.Nets.length k3, .slice p4 a_0.Design.Ports.length k4, .slice p5 a_0.Wires.length k5] 32] := h
 refine zp1 rfl (zNSR (zp2 rfl ?_))
 replace h := h.pick [7, 5, 6, 8, 9] rfl
 obtain ⟨o2, hr24, hF⟩ := qd hF
 obtain ⟨r22, x6⟩ := o2
 refine qch r22 call23 (qjs h hr24) rfl rfl rfl rfl ?_
 rintro w22 ⟨S30, h⟩
 replace h : SH _ _ [Ch.own S30 (x6 : List qg) [.slice p21 r10.length k21], Ch.own S12 (r13 : List Int) [.slice p23 r13.length k23], Ch.own S10 (r11 : List Int) [.slice p22 r11.length k22], Ch.own S5 (r7 : List Int) [.slice p15 r7.length k15], Ch.box bb1 [.slice p1 a_0.Library.Cells.length k1, .slice p2 a_0.Design.Instances.length k2, .slice p3 a_0.Design.Nets.length k3, .slice p4 a_0.Design.Ports.length k4, .slice p5 a_0.Wires.length k5] 32] := h
 refine zp1 rfl (zNSR (zp2 rfl ?_))
 replace h := h.pick [2, 1, 3, 4] rfl
 obtain ⟨o3, hr25, hF⟩ := qd hF
 obtain ⟨r23, x7⟩ := o3
 refine qch r23 call24 (qau h hr25) rfl rfl rfl rfl ?_
 rintro w23 ⟨S31, h⟩
 replace h : SH _ _ [Ch.own S31 (x7 : List Int) [.slice p22 r11.length k22], Ch.own S12 (r13 : List Int) [.slice p23 r13.length k23], Ch.own S5 (r7 : List Int) [.slice p15 r7.length k15], Ch.box bb1 [.slice p1 a_0.Library.Cells.length k1, .slice p2 a_0.Design.Instances.length k2, .slice p3 a_0.Design.Nets.length k3, .slice p4 a_0.Design.Ports.length k4, .slice p5 a_0.Wires.length k5] 32] := h
 refine zp1 rfl (zNSS ?_)
 obtain ⟨KF2, hKF2, o6, hF, hK2⟩ := bindE hF
 refine qek (fun e w' => ∃ (b2 : Bool), KF2 b2 = some r ∧ e = [(1, .slice p6 a_1.length k6), (2, .slice p7 a_2.length k7), (3, .pointer (some ⟨bb1, 0, none⟩)), (8, .slice p15 r7.length k15), (9, .int .i64 r8), (13, .slice p23 r13.length k23), (101, .bool b2)] ∧ SH w w' [Ch.own S12 (r13 : List Int) [.slice p23 r13.length k23], Ch.own S5 (r7 : List Int) [.slice p15 r7.length k15], Ch.box bb1 [.slice p1 a_0.Library.Cells.length k1, .slice p2 a_0.Design.Instances.length k2, .slice p3 a_0.Design.Nets.length k3, .slice p4 a_0.Design.Ports.length k4, .slice p5 a_0.Wires.length k5] 32]) ?_ ?_
 ·refine qB (zp3 rfl ?_)
  by_cases hc15 : (decide (r23 < 0)) = true
  ·replace hF := bifT hc15 hF
   refine qE hc15 (t := 91) rfl (zn4 rfl (zp2 rfl (zn3 rfl (zp1 rfl (qb ?_)))))
   replace h := h.pick [1, 2, 3] rfl
   obtain rfl := qh hF
   exact qx [(1, _), (2, _), (3, _), (8, _), (9, _), (13, _), (101, _)] ⟨rfl, rfl, rfl, rfl, rfl, rfl, rfl, trivial⟩ ⟨_, hK2, rfl, h⟩
  replace hc15 := zb hc15
  replace hF := bifF hc15 hF
  refine qD hc15 (t := 91) rfl (qa rfl (zp1 rfl (qa rfl (zp1 rfl (qa rfl ?_)))))
  obtain ⟨r34, hr37, hF⟩ := qd hF
  refine qp r34 h call19 (qaF (h.own 1 rfl) (h.own 2 rfl) hr37) rfl rfl rfl rfl ?_
  intro w33 h
  refine qa rfl (zp3 rfl ?_)
  by_cases hc16 : (!r34) = true
  ·replace hF := bifT hc16 hF
   refine qE hc16 (t := 97) rfl (zn3 rfl (zp1 rfl (qb ?_)))
   replace h := h.pick [1, 2, 3] rfl
   obtain rfl := qh hF
   exact qx [(1, _), (2, _), (3, _), (8, _), (9, _), (13, _), (101, _)] ⟨rfl, rfl, rfl, rfl, rfl, rfl, rfl, trivial⟩ ⟨_, hK2, rfl, h⟩
  replace hc16 := zb hc16
  replace hF := bifF hc16 hF
  refine qD hc16 (t := 97) rfl (qa rfl (zp1 rfl (qa rfl (zp1 rfl (qa rfl (zp2 rfl (qb ?_)))))))
  replace h := h.pick [1, 2, 3] rfl
  obtain rfl := qh hF
  exact qx [(1, _), (2, _), (3, _), (8, _), (9, _), (13, _), (101, _)] ⟨rfl, rfl, rfl, rfl, rfl, rfl, rfl, trivial⟩ ⟨_, hK2, rfl, h⟩
 rintro e2 w34 ⟨b2, hF, rfl, h⟩
 subst hKF2
 refine qr rfl hF ?_ ?_ <;> intro hF
 ·exact zSR (zp1 rfl (qb (qy qc h hF ⟨rfl, trivial⟩)))
 refine zKSR (zp1 rfl (zNSR (zp2 rfl ?_)))
 obtain ⟨o4, hr26, hF⟩ := qd hF
 obtain ⟨r24, x8⟩ := o4
 refine qch r24 call24 (qau h hr26) rfl rfl rfl rfl ?_
 rintro w24 ⟨S32, h⟩
 replace h : SH _ _ [Ch.own S32 (x8 : List Int) [.slice p23 r13.length k23], Ch.own S5 (r7 : List Int) [.slice p15 r7.length k15], Ch.box bb1 [.slice p1 a_0.Library.Cells.length k1, .slice p2 a_0.Design.Instances.length k2, .slice p3 a_0.Design.Nets.length k3, .slice p4 a_0.Design.Ports.length k4, .slice p5 a_0.Wires.length k5] 32] := h
 refine zp1 rfl (zNSR (zp1 rfl (zNSR (zp2 rfl ?_))))
 obtain ⟨r25, hr27, hF⟩ := qd hF
 refine qR r25 h call25 (qiZ (h.own 0 rfl) hr27) rfl rfl rfl rfl ?_
 intro w25 h
 refine zp1 rfl (zNSSR (zp2 rfl (qb ?_)))
 refine qr rfl hF ?_ ?_ <;> intro hF
 ·exact zSR (zp1 rfl (qb (qy qc h hF ⟨rfl, trivial⟩)))
 refine zKSSR (zp3 rfl (qb ?_))
 refine qr rfl hF ?_ ?_ <;> intro hF
 ·exact zSR (zp1 rfl (qb (qy qc h hF ⟨rfl, trivial⟩)))
 refine zKSR (zl 2 0 h rfl ?_)
 obtain ⟨r26, hr28, hF⟩ := qd hF
 refine qga r26 h call12 (qgZ (qk8 (⟨(⟨a_0.Library.Cells⟩ : qv), (⟨a_0.Design.Instances, a_0.Design.Nets, a_0.Design.Ports⟩ : qj), a_0.Wires⟩ : qz) (h.oldS s1) (h.oldS s2) (h.oldS s3) (h.oldS s4) (h.oldS s5)) hr28) rfl rfl rfl rfl ?_
 intro w26 S33 cs7 h
 obtain ⟨p31, k31, p32, k32, p33, k33, p34, k34, p35, k35, rfl, -, -, -, -, -⟩ := qaq (h.own 0 rfl)
 refine zp1 rfl ?_
 obtain ⟨r27, hr29, hF⟩ := qd hF
 refine qai r27 h call13 (qfc ⟨_, _, rfl, (h.oldS s6)⟩ hr29) rfl rfl rfl rfl ?_
 intro w27 S34 p36 k36 h
 refine zp1 rfl ?_
 obtain ⟨r28, hr30, hF⟩ := qd hF
 refine qai r28 h call14 (qaG ⟨_, _, rfl, (h.oldS s7)⟩ hr30) rfl rfl rfl rfl ?_
 intro w28 S35 p37 k37 h
 obtain ⟨r29, hr31, hF⟩ := qd hF
 obtain ⟨r30, r31⟩ := r29
 refine qh1 (r30, r31) h call31 (qkQ (h.own 2 rfl) (h.own 1 rfl) (h.own 0 rfl) hr31) rfl rfl rfl rfl ?_
 intro w29 S36 us5 hv7 hr32
 obtain ⟨S37, S38, p38, k38, us6, rfl, hv8, hr33⟩ := hv7.consL hr32
 obtain ⟨rfl, h⟩ := hv8.lastI hr33
 refine zp5 rfl (zNSS ?_)
 obtain ⟨KF1, hKF1, o5, hF, hK1⟩ := bindE hF
 refine qek (fun e w' => ∃ (b3 : Bool), KF1 b3 = some r ∧ e = [(13, .slice p23 r13.length k23), (16, .int .i64 r24), (131, .bool b3)] ∧ SH w w' [Ch.own S32 (x8 : List Int) [.slice p23 r13.length k23]]) ?_ ?_
 ·refine qB (zp2 rfl ?_)
  obtain ⟨r33, hr36, hF⟩ := qd hF
  refine qp r33 h call19 (qaF (h.own 0 rfl) (h.own 5 rfl) hr36) rfl rfl rfl rfl ?_
  intro w31 h
  refine zp2 rfl ?_
  by_cases hc14 : (!r33) = true
  ·replace hF := bifT hc14 hF
   refine qE hc14 (t := 127) rfl (zn3 rfl (zp1 rfl (qb ?_)))
   replace h := h.pick [4] rfl
   obtain rfl := qh hF
   exact qx [(13, _), (16, _), (131, _)] ⟨rfl, rfl, rfl, trivial⟩ ⟨_, hK1, rfl, h⟩
  replace hc14 := zb hc14
  replace hF := bifF hc14 hF
  refine qD hc14 (t := 127) rfl (qa rfl (zp1 rfl (qa rfl (zp1 rfl (qa rfl (zp2 rfl (qb ?_)))))))
  replace h := h.pick [4] rfl
  obtain rfl := qh hF
  exact qx [(13, _), (16, _), (131, _)] ⟨rfl, rfl, rfl, trivial⟩ ⟨_, hK1, rfl, h⟩
 rintro e1 w32 ⟨b3, hF, rfl, h⟩
 subst hKF1
 refine qr rfl hF ?_ ?_ <;> intro hF
 ·exact zSR (zp1 rfl (qb (qy qc h hF ⟨rfl, trivial⟩)))
 refine zKSR (zp1 rfl (zNSR (zp2 rfl ?_)))
 obtain ⟨r32, hr35, hF⟩ := qd hF
 refine qR r32 h call25 (qiZ (h.own 0 rfl) hr35) rfl rfl rfl rfl ?_
 intro w30 h
 refine zp1 rfl (zNSSR (zp2 rfl (qb ?_)))
 refine qr rfl hF ?_ ?_ <;> intro hF
 ·exact zSR (zp1 rfl (qb (qy qc h hF ⟨rfl, trivial⟩)))
 refine zKSSR (zp3 rfl (qb ?_))
 refine qr rfl hF ?_ ?_ <;> intro hF
 ·exact zSR (zp1 rfl (qb (qy qc h hF ⟨rfl, trivial⟩)))
 exact zKSR (zp1 rfl (qb (qy qc h hF ⟨rfl, trivial⟩)))

end Go.Fw


namespace Go.Fw
open Go

structure qsT (x : qmC) : Prop where
  False : okT x.False
  Cycles : okI x.Cycles
  MaxLimit : okI x.MaxLimit
  MinLimit : okI x.MinLimit
end Go.Fw


namespace Go.Fw
open Go
set_option maxRecDepth 100000

theorem qrI {b : qz} {es : List qg} {path : List Int} (hok : qfT b) (hes : okL qcJ es) (hpk : okL okI path) : ∃ R : List Int × Int, Ev (fun n => qiU n b es path) R ∧ Ev (fun n => qhY n b es path) R ∧ qay R.1 ≤ 1048576 := by
  have hl := hes.len
  have hp := hpk.len
  obtain ⟨o, ev, hv⟩ := qrK hok hes
  have hc := qpR hok hes
  unfold qiU qhY
  by_cases h0 : codeX b es = 0
  · obtain ⟨hb, _, hx⟩ := qpL h0
    obtain ⟨ls, lo, de, rfl⟩ := hv h0
    rw [h0] at ev hc
    have d1 := qmR (path := path) hok hp
    have d2 := qnx (V := ⟨b, places b.Design, ls, lo, de, []⟩) (path := path) hb rfl rfl hp
    rw [hb, Bool.true_and] at d1
    cases hd : dpathB b path
    · rw [hd] at d1 d2
      exact ⟨([], 2), Ev.bind hc (Ev.ff rfl (Ev.bind d1 (Ev.tt rfl .done))), Ev.bind ev (Ev.ff rfl (Ev.bind d2 (Ev.tt rfl .done))), Nat.zero_le _⟩
    · obtain ⟨h1, _⟩ := qqf hd
      rw [hd] at d1 d2
      have hL : Ev (fun n => qdL es path n (startTs es (at0 path 0)) 1) (runTs es path, (path.length : Int)) := by
        have main : ∀ k j, j + k = path.length → 1 ≤ j → Ev (fun n => qdL es path n (runTs es (path.take j)) (j : Int)) (runTs es path, (path.length : Int)) := by
          intro k
          induction k with
          | zero =>
            intro j hj _
            obtain rfl : j = path.length := by omega
            exact Ev.succ (by simp only [qdL, qu (Nat.le_refl _), cond_false, List.take_length]; exact .done)
          | succ k ih =>
            intro j hj hj1
            have hlt : j < path.length := by omega
            refine Ev.succ ?_
            simp only [qdL, qt hlt, cond_true, qbx hlt, Option.bind_some, qq (show j < 9223372036854775807 by omega)]
            refine Ev.bind (qpn hes qnP) ?_
            rw [qpH (by rw [List.length_take]; omega), qrJ hlt, ← List.take_succ_eq_append_getElem hlt]
            exact ih (j + 1) (by omega) (by omega)
        have := main (path.length - 1) 1 (by omega) (Nat.le_refl _)
        have e1 : runTs es (path.take 1) = startTs es (at0 path 0) := by
          cases path with
          | nil => simp at h1
          | cons q path => rfl
        rw [e1] at this
        exact this
      exact ⟨(runTs es path, 0), Ev.bind hc (Ev.ff rfl (Ev.bind d1 (Ev.ff rfl (Ev.bindN (qbx (j := 0) (by omega)) (Ev.bind (qqw hes) (Ev.bind hL .done)))))), Ev.bind ev (Ev.ff rfl (Ev.bind d2 (Ev.ff rfl (Ev.bind (qrx hes h1 hp) .done)))), by show qay (runTs es path) ≤ _; unfold qay; rw [qnP]; omega⟩
  · have hne : (codeX b es != 0) = true := by simpa using h0
    exact ⟨([], codeX b es), Ev.bind hc (Ev.tt hne .done), Ev.bind ev (Ev.tt hne .done), Nat.zero_le _⟩

theorem qlR {b : qz} {es : (List qg)} {path : (List Int)} (h0 : qkz b) (h1 : (rngL qfe) es) (h2 : (rngL rngI) path) : Ev (fun n => qf7 n b es path) true := by
  unfold qf7
  refine Ev.bif (fun _ => .done) (fun hl => ?_)
  have hl2 : path.length ≤ 1048576 := by have := of_decide_eq_false hl; omega
  obtain ⟨r1, e1, q1⟩ := qrZ (a := b) (left := 1048576) h0 (by omega) (by omega)
  refine Ev.bind e1 ?_
  rcases q1 with q1 | ⟨p1, q1⟩
  · exact Ev.tt (by simpa using q1) .done
  refine Ev.ff (by simp; omega) ?_
  obtain ⟨r2, e2, q2⟩ := qnJ (a := es) (left := r1) h1 p1 (by omega)
  refine Ev.bind e2 ?_
  rcases q2 with q2 | ⟨p2, q2⟩
  · exact Ev.tt (by simpa using q2) .done
  refine Ev.ff (by simp; omega) ?_
  have w0 : qfJ b ≤ 1048576 := by omega
  have k0 := qpw h0 w0
  have w1 : qbH es ≤ 1048576 := by omega
  have k1 := qmn h1 w1
  have w2 : qay path ≤ 1048576 := by unfold qay; omega
  have k2 := qcZ h2 w2
  obtain ⟨⟨R0, R1⟩, hs, hi, v0⟩ := qrI (b := b) (es := es) (path := path) k0 k1 k2
  have v0 : qay R0 ≤ 1048576 := v0
  refine Ev.bind (qlg w0) ?_
  refine Ev.bind (qie w1) ?_
  refine Ev.bind (qdm w2) ?_
  refine Ev.bind hs ?_
  refine Ev.bind (qlg w0) ?_
  refine Ev.bind (qie w1) ?_
  refine Ev.bind (qdm w2) ?_
  refine Ev.bind hi ?_
  refine Ev.bind (b := false) (Ev.bind (qdl v0) (Ev.ff rfl (Ev.now (by simp)))) (Ev.ff rfl ?_)
  refine Ev.bind (qlg w0) ?_
  refine Ev.bind (qrc w0) (Ev.ff rfl ?_)
  refine Ev.bind (qie w1) ?_
  refine Ev.bind (qnv w1) (Ev.ff rfl ?_)
  refine Ev.bind (qdm w2) ?_
  refine Ev.bind (qdl w2) (Ev.ff rfl ?_)
  obtain ⟨m1, ⟨x1_0, x1_1, x1_2, x1_3, x1_4⟩, mk1, ml1, mu1⟩ := qoo (a := b) (k := 1) (by omega) (by omega) w0
  refine Ev.bind mk1 ?_
  obtain ⟨m2, x2_0, mk2, ml2, mu2⟩ := qlq (a := es) (k := m1) (by omega) (by omega) w1
  refine Ev.bind mk2 ?_
  obtain ⟨m3, x3_0, mk3, ml3, mu3⟩ := qdB (a := path) (k := m2) (by omega) (by omega) w2
  refine Ev.bind mk3 ?_
  refine Ev.bind (b := false) (Ev.ff (by simp; omega) (Ev.bind (qdl v0) (Ev.ff rfl (Ev.now (by simp))))) (Ev.ff rfl ?_)
  have hh1 := qsx (k := 1) (m := R0.length) (by omega) (by omega) v0
  refine Ev.bind (qmS (by omega) (by omega) v0) ?_
  refine Ev.bind hh1 (Ev.ff (by simp; omega) (Ev.ff qbT ?_))
  refine Ev.bind (qlg w0) ?_
  refine Ev.bind (qie w1) ?_
  refine Ev.bind (qdm w2) ?_
  refine Ev.bind hi ?_
  refine Ev.bind (b := false) (Ev.bind (qdl v0) (Ev.ff rfl (Ev.now (by simp)))) (Ev.ff rfl ?_)
  refine Ev.bind hh1 (Ev.ff (by simp; omega) (Ev.ff qbT ?_))
  exact .done


end Go.Fw
