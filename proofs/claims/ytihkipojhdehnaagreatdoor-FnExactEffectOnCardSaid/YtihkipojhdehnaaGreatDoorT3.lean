/- By a program of mine (gen.py): for each function a plain function and the proof that the code computes it. -/
import Derived.Test.YtihkipojhdehnaaGreatDoorE1
import Derived.Test.YtihkipojhdehnaaGreatDoorB7
import Derived.Test.YtihkipojhdehnaaGreatDoorFw34

namespace Go.Fw
open Go Go.Proofs
open Go.RowKit (Below)
set_option maxRecDepth 100000
set_option maxHeartbeats 1600000
def qdM (list : (List Int)) (x : Int) : Nat → Int → Option (Flow Int Int)
 | 0, _ => none
 | n + 1, i1 =>
  bif decide (i1 < (list.length : Int)) then
   (idx list i1).bind fun y1 =>
   bif (y1 == x) then
    some (.ret i1)
   else
    qdM list x n (W64 (i1 + 1))
  else
   some (.nxt i1)

def qeQ (n : Nat) (list : (List Int)) (x : Int) : Option Int :=
 (qdM list x n 0).bind fun o => match o with
 | .ret r => some r
 | .nxt _ =>
  some (-1)

theorem qhn {n : Nat} {w : World} {list : (List Int)} {x : Int} {cs1 : List Value} (ha1 : GoT.R w (old w) list cs1) {r : Int} (hF : qeQ n list x = some r) : RetV Tryz.prog 79 [GoT.v (List Int) cs1, .int .i64 x] w r := by
 obtain ⟨p1, k1, rfl, s1⟩ := ha1
 refine qf Tryz.func79 rfl (m := 19) rfl rfl (fun h => ?_)
 rw [qeQ] at hF
 refine zSR (zp1 rfl (zNSSR (zp1 rfl (qb ?_))))
 obtain ⟨o1, hF, hK1⟩ := qd hF
 refine qA (qW [(0, _), (1, _), (5, _)] ⟨rfl, rfl, rfl, trivial⟩ ?_)
 refine qG (fun m e w' => ∃ (i1 : Int), qdM list x m i1 = some o1 ∧ e = [(0, .slice p1 list.length k1), (1, .int .i64 x), (5, .int .i64 i1)] ∧ SH w w' []) n ⟨_, hF, rfl, h⟩ ?_
 rintro m1 e1 w1 ⟨i1, hF, rfl, h⟩
 rcases m1 with _ | m1
 ·rw [qdM] at hF
  cases hF
 rw [qdM] at hF
 refine zSSR (zp4 rfl (qb ?_))
 refine qp rfl hF ?_ ?_ <;> intro hF
 ·refine zKSBSR (zp2 rfl ?_)
  obtain ⟨y1, hy1, hF⟩ := qd hF
  have he1 := qg hy1
  obtain ⟨b1, o_1, q1, cs2, hp1, hq1, -, hr1, hc2⟩ := s1.at hy1
  obtain rfl := hr1
  refine zxe hp1 hq1 he1 rfl (zc 0 (hc2.below h.below) rfl (zp2 rfl (qb ?_)))
  refine qp rfl hF ?_ ?_ <;> intro hF
  ·refine zSR (zp2 rfl (qb ?_))
   obtain rfl := qj hF; replace hF := hK1
   exact qar qc h hF ⟨rfl, trivial⟩
  exact zKER (zp3 rfl (qb (qy m1 [(0, _), (1, _), (5, _)] (Nat.lt_succ_self m1) ⟨rfl, rfl, rfl, trivial⟩ ⟨_, hF, rfl, h⟩)))
 refine qF rfl ?_
 obtain rfl := qj hF; replace hF := hK1
 exact zSR (zp1 rfl (qb (qar qc h hF ⟨rfl, trivial⟩)))

def qbu (b : qz) (path : (List Int)) : Nat → Int → Option (Flow Bool Int)
 | 0, _ => none
 | n + 1, i1 =>
  bif decide (i1 < (path.length : Int)) then
   (idx path i1).bind fun y1 =>
   (qd7 n b).bind fun r1 =>
   (qaA n y1 0 (W64 (r1 - 1))).bind fun r2 =>
   bif (!r2) then
    some (.ret false)
   else
    bif decide (i1 > 0) then
     (idx path (W64 (i1 - 1))).bind fun y2 =>
     (idx path i1).bind fun y3 =>
     (qgC n b y2).bind fun r3 =>
     (qeQ n r3 y3).bind fun r4 =>
     bif decide (r4 < 0) then
      some (.ret false)
     else
      qbu b path n (W64 (i1 + 1))
    else
     qbu b path n (W64 (i1 + 1))
  else
   some (.nxt i1)

def qfy (n : Nat) (b : qz) (path : (List Int)) : Option Bool :=
 (
  (qfv n b).bind fun r5 =>
  bif (!r5) then
   some true
  else
   bif decide ((path.length : Int) < 1) then
    some true
   else
    some (decide ((path.length : Int) > 60))).bind fun b1 =>
 bif b1 then
  some false
 else
  (qbu b path n 0).bind fun o => match o with
  | .ret r => some r
  | .nxt _ =>
   some true

theorem qkx {n : Nat} {w : World} {b : qz} {path : (List Int)} {cs1 : List Value} (ha1 : GoT.R w (old w) b cs1) {cs2 : List Value} (ha2 : GoT.R w (old w) path cs2) {r : Bool} (hF : qfy n b path = some r) : RetV Tryz.prog 63 [GoT.v qz cs1, GoT.v (List Int) cs2] w r := by
 obtain ⟨p1, k1, p2, k2, p3, k3, p4, k4, p5, k5, rfl, s1, s2, s3, s4, s5⟩ := qat ha1
 obtain ⟨p6, k6, rfl, s6⟩ := ha2
 refine qf Tryz.func63 rfl (m := 53) rfl rfl (fun h => ?_)
 rw [qfy] at hF
 refine zSR (qP h rfl rfl ?_)
 intro w1 bb1 h
 refine zp1 rfl (zNSS ?_)
 obtain ⟨KF1, hKF1, o2, hF, hK2⟩ := bindE hF
 refine qdR (fun e w' => ∃ (b1 : Bool), KF1 b1 = some r ∧ e = [(1, .slice p6 path.length k6), (2, .pointer (some ⟨bb1, 0, none⟩)), (18, .bool b1)] ∧ SH w w' [Ch.box bb1 [.slice p1 b.Library.Cells.length k1, .slice p2 b.Design.Instances.length k2, .slice p3 b.Design.Nets.length k3, .slice p4 b.Design.Ports.length k4, .slice p5 b.Wires.length k5] 50]) ?_ ?_
 ·refine qB (zl 0 0 h rfl ?_)
  obtain ⟨r5, hr8, hF⟩ := qd hF
  refine qm r5 h call104 (qic (h.old ha1) hr8) rfl rfl rfl rfl ?_
  intro w8 h
  refine zp2 rfl ?_
  by_cases hc9 : (!r5) = true
  ·replace hF := bifT hc9 hF
   refine qC hc9 (t := 9) rfl (zn3 rfl (zp2 rfl (zn3 rfl (zp1 rfl (qb ?_)))))
   obtain rfl := qj hF
   exact qu [(1, _), (2, _), (18, _)] ⟨rfl, rfl, rfl, trivial⟩ ⟨_, hK2, rfl, h⟩
  replace hc9 := zb hc9
  replace hF := bifF hc9 hF
  refine qD hc9 (t := 9) rfl (qa rfl (zp1 rfl (qa rfl (zp1 rfl (qa rfl (zp3 rfl ?_))))))
  by_cases hc10 : (decide ((path.length : Int) < 1)) = true
  ·replace hF := bifT hc10 hF
   refine qC hc10 (t := 14) rfl (zn3 rfl (zp1 rfl (qb ?_)))
   obtain rfl := qj hF
   exact qu [(1, _), (2, _), (18, _)] ⟨rfl, rfl, rfl, trivial⟩ ⟨_, hK2, rfl, h⟩
  replace hc10 := zb hc10
  replace hF := bifF hc10 hF
  refine qD hc10 (t := 14) rfl (qa rfl (zp1 rfl (qa rfl (zp1 rfl (qa rfl (zp2 rfl (qb ?_)))))))
  obtain rfl := qj hF
  exact qu [(1, _), (2, _), (18, _)] ⟨rfl, rfl, rfl, trivial⟩ ⟨_, hK2, rfl, h⟩
 rintro e2 w9 ⟨b1, hF, rfl, h⟩
 subst hKF1
 refine qp rfl hF ?_ ?_ <;> intro hF
 ·exact zSR (zp1 rfl (qb (qx qc h hF ⟨rfl, trivial⟩)))
 refine zKSSR (zp1 rfl (qb ?_))
 obtain ⟨o1, hF, hK1⟩ := qd hF
 refine qA (qW [(1, _), (2, _), (5, _)] ⟨rfl, rfl, rfl, trivial⟩ ?_)
 refine qG (fun m e w' => ∃ (i1 : Int), qbu b path m i1 = some o1 ∧ e = [(1, .slice p6 path.length k6), (2, .pointer (some ⟨bb1, 0, none⟩)), (5, .int .i64 i1)] ∧ SH w w' [Ch.box bb1 [.slice p1 b.Library.Cells.length k1, .slice p2 b.Design.Instances.length k2, .slice p3 b.Design.Nets.length k3, .slice p4 b.Design.Ports.length k4, .slice p5 b.Wires.length k5] 50]) n ⟨_, hF, rfl, h⟩ ?_
 rintro m1 e1 w2 ⟨i1, hF, rfl, h⟩
 rcases m1 with _ | m1
 ·rw [qbu] at hF
  cases hF
 rw [qbu] at hF
 refine zSSR (zp4 rfl (qb ?_))
 refine qp rfl hF ?_ ?_ <;> intro hF
 ·refine zKSB (qbl ?_)
  refine qfO [] (fun w' => SH w w' [Ch.box bb1 [.slice p1 b.Library.Cells.length k1, .slice p2 b.Design.Instances.length k2, .slice p3 b.Design.Nets.length k3, .slice p4 b.Design.Ports.length k4, .slice p5 b.Wires.length k5] 50]) rfl 28 rfl #[ff, ff, ff, ff, ff, ff, ff, ff, ff, ff, ff, ff, ff, ff, ff, ff, ff, ff, ff, ff, ff, ff, ff, ff, ff, ff, ff, ff] (by kernel_rfl) (fun w3 hb => ?_)
  replace h := h.ext hb
  clear hb
  refine qk 0 rfl #[tt, ff, ff, ff, ff, ff, ff, ff, ff, ff, ff, ff, ff, ff, ff, ff, ff, ff, ff, ff, ff, ff, ff, ff, ff, ff, ff, ff] (by kernel_rfl) (by kernel_rfl) (fun w' hw => v_p qc rfl w') (h.pick [0] rfl) rfl ?_
  refine qk 1 rfl #[tt, tt, ff, ff, ff, ff, ff, ff, ff, ff, ff, ff, ff, ff, ff, ff, ff, ff, ff, ff, ff, ff, ff, ff, ff, ff, ff, ff] (by kernel_rfl) (by kernel_rfl) (fun w' hw => v_p qc rfl w') (h.pick [0] rfl) rfl ?_
  obtain ⟨y1, hy1, hF⟩ := qd hF
  have he1 := qg hy1
  obtain ⟨b2, o_1, q1, cs3, hp1, hq1, -, hr1, hc3⟩ := s6.at hy1
  obtain rfl := hr1
  refine qk 2 rfl #[tt, tt, tt, ff, ff, ff, ff, ff, ff, ff, ff, ff, ff, ff, ff, ff, ff, ff, ff, ff, ff, ff, ff, ff, ff, ff, ff, ff] (by kernel_rfl) (by kernel_rfl) (fun w' hw => qfA qc hp1 hq1 ⟨he1.1, he1.2.1⟩ rfl rfl rfl rfl rfl rfl) (h.pick [0] rfl) rfl ?_
  refine qk 3 rfl #[tt, tt, tt, tt, ff, ff, ff, ff, ff, ff, ff, ff, ff, ff, ff, ff, ff, ff, ff, ff, ff, ff, ff, ff, ff, ff, ff, ff] (by kernel_rfl) (by kernel_rfl) (fun w' hw => qbE qc (hc3.below hw.below) (j := 0) rfl rfl rfl) (h.pick [0] rfl) rfl ?_
  refine qk 4 rfl #[tt, tt, tt, tt, tt, ff, ff, ff, ff, ff, ff, ff, ff, ff, ff, ff, ff, ff, ff, ff, ff, ff, ff, ff, ff, ff, ff, ff] (by kernel_rfl) (by kernel_rfl) (fun w' hw => qbE qc (hw.box 0 rfl) (j := 0) rfl rfl rfl) (h.pick [0] rfl) rfl ?_
  refine qax 5 rfl #[tt, tt, tt, tt, tt, tt, ff, ff, ff, ff, ff, ff, ff, ff, ff, ff, ff, ff, ff, ff, ff, ff, ff, ff, ff, ff, ff, ff] (by kernel_rfl) (by kernel_rfl) ?_
  obtain ⟨r1, hr2, hF⟩ := qd hF
  refine qN r1 h call78 (qjc (h.old ha1) hr2) rfl rfl rfl rfl ?_
  intro w4 h
  refine qao (fun _ => (h.pick [0] rfl)) ?_
  refine qk 6 rfl #[tt, tt, tt, tt, tt, tt, tt, ff, ff, ff, ff, ff, ff, ff, ff, ff, ff, ff, ff, ff, ff, ff, ff, ff, ff, ff, ff, ff] (by kernel_rfl) (by kernel_rfl) (fun w' hw => v_p qc rfl w') (h.pick [0] rfl) rfl ?_
  refine qax 7 rfl #[tt, tt, tt, tt, tt, tt, tt, tt, ff, ff, ff, ff, ff, ff, ff, ff, ff, ff, ff, ff, ff, ff, ff, ff, ff, ff, ff, ff] (by kernel_rfl) (by kernel_rfl) ?_
  obtain ⟨r2, hr3, hF⟩ := qd hF
  refine qm r2 h call77 (qal hr3) rfl rfl rfl rfl ?_
  intro w5 h
  refine qao (fun _ => (h.pick [0] rfl)) ?_
  refine qk 8 rfl #[tt, tt, tt, tt, tt, tt, tt, tt, tt, ff, ff, ff, ff, ff, ff, ff, ff, ff, ff, ff, ff, ff, ff, ff, ff, ff, ff, ff] (by kernel_rfl) (by kernel_rfl) (fun w' hw => v_p qc rfl w') (h.pick [0] rfl) rfl ?_
  refine qk 9 rfl #[tt, tt, tt, tt, tt, tt, tt, tt, tt, tt, ff, ff, ff, ff, ff, ff, ff, ff, ff, ff, ff, ff, ff, ff, ff, ff, ff, ff] (by kernel_rfl) (by kernel_rfl) (fun w' hw => v_p qc rfl w') (h.pick [0] rfl) rfl ?_
  by_cases hc4 : (!r2) = true
  ·replace hF := bifT hc4 hF
   refine qoY hc4 (t := 34) rfl ?_
   refine qcT 10 rfl (by kernel_rfl) rfl #[tt, tt, tt, tt, tt, tt, tt, tt, tt, tt, tt, ff, ff, ff, ff, ff, ff, ff, ff, ff, ff, ff, ff, ff, ff, ff, ff, ff] (by kernel_rfl) (by kernel_rfl) (h.pick [0] rfl) rfl ?_
   refine qcT 11 rfl (by kernel_rfl) rfl #[tt, tt, tt, tt, tt, tt, tt, tt, tt, tt, tt, tt, ff, ff, ff, ff, ff, ff, ff, ff, ff, ff, ff, ff, ff, ff, ff, ff] (by kernel_rfl) (by kernel_rfl) (h.pick [0] rfl) rfl ?_
   refine qcT 12 rfl (by kernel_rfl) rfl #[tt, tt, tt, tt, tt, tt, tt, tt, tt, tt, tt, tt, tt, ff, ff, ff, ff, ff, ff, ff, ff, ff, ff, ff, ff, ff, ff, ff] (by kernel_rfl) (by kernel_rfl) (h.pick [0] rfl) rfl ?_
   refine qcT 13 rfl (by kernel_rfl) rfl #[tt, tt, tt, tt, tt, tt, tt, tt, tt, tt, tt, tt, tt, tt, ff, ff, ff, ff, ff, ff, ff, ff, ff, ff, ff, ff, ff, ff] (by kernel_rfl) (by kernel_rfl) (h.pick [0] rfl) rfl ?_
   refine qcT 14 rfl (by kernel_rfl) rfl #[tt, tt, tt, tt, tt, tt, tt, tt, tt, tt, tt, tt, tt, tt, tt, ff, ff, ff, ff, ff, ff, ff, ff, ff, ff, ff, ff, ff] (by kernel_rfl) (by kernel_rfl) (h.pick [0] rfl) rfl ?_
   refine qcT 15 rfl (by kernel_rfl) rfl #[tt, tt, tt, tt, tt, tt, tt, tt, tt, tt, tt, tt, tt, tt, tt, tt, ff, ff, ff, ff, ff, ff, ff, ff, ff, ff, ff, ff] (by kernel_rfl) (by kernel_rfl) (h.pick [0] rfl) rfl ?_
   refine qcT 16 rfl (by kernel_rfl) rfl #[tt, tt, tt, tt, tt, tt, tt, tt, tt, tt, tt, tt, tt, tt, tt, tt, tt, ff, ff, ff, ff, ff, ff, ff, ff, ff, ff, ff] (by kernel_rfl) (by kernel_rfl) (h.pick [0] rfl) rfl ?_
   refine qcT 17 rfl (by kernel_rfl) rfl #[tt, tt, tt, tt, tt, tt, tt, tt, tt, tt, tt, tt, tt, tt, tt, tt, tt, tt, ff, ff, ff, ff, ff, ff, ff, ff, ff, ff] (by kernel_rfl) (by kernel_rfl) (h.pick [0] rfl) rfl ?_
   refine qcT 18 rfl (by kernel_rfl) rfl #[tt, tt, tt, tt, tt, tt, tt, tt, tt, tt, tt, tt, tt, tt, tt, tt, tt, tt, tt, ff, ff, ff, ff, ff, ff, ff, ff, ff] (by kernel_rfl) (by kernel_rfl) (h.pick [0] rfl) rfl ?_
   refine qcT 19 rfl (by kernel_rfl) rfl #[tt, tt, tt, tt, tt, tt, tt, tt, tt, tt, tt, tt, tt, tt, tt, tt, tt, tt, tt, tt, ff, ff, ff, ff, ff, ff, ff, ff] (by kernel_rfl) (by kernel_rfl) (h.pick [0] rfl) rfl ?_
   refine qcT 20 rfl (by kernel_rfl) rfl #[tt, tt, tt, tt, tt, tt, tt, tt, tt, tt, tt, tt, tt, tt, tt, tt, tt, tt, tt, tt, tt, ff, ff, ff, ff, ff, ff, ff] (by kernel_rfl) (by kernel_rfl) (h.pick [0] rfl) rfl ?_
   refine qcT 21 rfl (by kernel_rfl) rfl #[tt, tt, tt, tt, tt, tt, tt, tt, tt, tt, tt, tt, tt, tt, tt, tt, tt, tt, tt, tt, tt, tt, ff, ff, ff, ff, ff, ff] (by kernel_rfl) (by kernel_rfl) (h.pick [0] rfl) rfl ?_
   refine qcT 22 rfl (by kernel_rfl) rfl #[tt, tt, tt, tt, tt, tt, tt, tt, tt, tt, tt, tt, tt, tt, tt, tt, tt, tt, tt, tt, tt, tt, tt, ff, ff, ff, ff, ff] (by kernel_rfl) (by kernel_rfl) (h.pick [0] rfl) rfl ?_
   refine qcT 23 rfl (by kernel_rfl) rfl #[tt, tt, tt, tt, tt, tt, tt, tt, tt, tt, tt, tt, tt, tt, tt, tt, tt, tt, tt, tt, tt, tt, tt, tt, ff, ff, ff, ff] (by kernel_rfl) (by kernel_rfl) (h.pick [0] rfl) rfl ?_
   refine qcT 24 rfl (by kernel_rfl) rfl #[tt, tt, tt, tt, tt, tt, tt, tt, tt, tt, tt, tt, tt, tt, tt, tt, tt, tt, tt, tt, tt, tt, tt, tt, tt, ff, ff, ff] (by kernel_rfl) (by kernel_rfl) (h.pick [0] rfl) rfl ?_
   refine qcT 25 rfl (by kernel_rfl) rfl #[tt, tt, tt, tt, tt, tt, tt, tt, tt, tt, tt, tt, tt, tt, tt, tt, tt, tt, tt, tt, tt, tt, tt, tt, tt, tt, ff, ff] (by kernel_rfl) (by kernel_rfl) (h.pick [0] rfl) rfl ?_
   refine qcT 26 rfl (by kernel_rfl) rfl #[tt, tt, tt, tt, tt, tt, tt, tt, tt, tt, tt, tt, tt, tt, tt, tt, tt, tt, tt, tt, tt, tt, tt, tt, tt, tt, tt, ff] (by kernel_rfl) (by kernel_rfl) (h.pick [0] rfl) rfl ?_
   refine qk 27 rfl #[tt, tt, tt, tt, tt, tt, tt, tt, tt, tt, tt, tt, tt, tt, tt, tt, tt, tt, tt, tt, tt, tt, tt, tt, tt, tt, tt, tt] (by kernel_rfl) (by kernel_rfl) (fun w' hw => v_p qc rfl w') (h.pick [0] rfl) rfl ?_
   refine qdn (by kernel_rfl) ?_
   refine qez rfl rfl (zSR (zp1 rfl (qb ?_)))
   obtain rfl := qj hF; replace hF := hK1
   exact qx qc h hF ⟨rfl, trivial⟩
  replace hc4 := zb hc4
  replace hF := bifF hc4 hF
  refine qpk hc4 (t := 34) rfl ?_
  refine qcS 10 rfl (by kernel_rfl) #[tt, tt, tt, tt, tt, tt, tt, tt, tt, tt, tt, ff, ff, ff, ff, ff, ff, ff, ff, ff, ff, ff, ff, ff, ff, ff, ff, ff] (by kernel_rfl) (by kernel_rfl) (fun w' hw => v_p qc rfl w') (h.pick [0] rfl) rfl ?_
  refine qcS 11 rfl (by kernel_rfl) #[tt, tt, tt, tt, tt, tt, tt, tt, tt, tt, tt, tt, ff, ff, ff, ff, ff, ff, ff, ff, ff, ff, ff, ff, ff, ff, ff, ff] (by kernel_rfl) (by kernel_rfl) (fun w' hw => v_p qc rfl w') (h.pick [0] rfl) rfl ?_
  refine qcS 12 rfl (by kernel_rfl) #[tt, tt, tt, tt, tt, tt, tt, tt, tt, tt, tt, tt, tt, ff, ff, ff, ff, ff, ff, ff, ff, ff, ff, ff, ff, ff, ff, ff] (by kernel_rfl) (by kernel_rfl) (fun w' hw => v_p qc rfl w') (h.pick [0] rfl) rfl ?_
  by_cases hc5 : (decide (i1 > 0)) = true
  ·replace hF := bifT hc5 hF
   refine qoY hc5 (t := 37) rfl ?_
   refine qcS 13 rfl (by kernel_rfl) #[tt, tt, tt, tt, tt, tt, tt, tt, tt, tt, tt, tt, tt, tt, ff, ff, ff, ff, ff, ff, ff, ff, ff, ff, ff, ff, ff, ff] (by kernel_rfl) (by kernel_rfl) (fun w' hw => qbE qc (hw.box 0 rfl) (j := 0) rfl rfl rfl) (h.pick [0] rfl) rfl ?_
   refine qcS 14 rfl (by kernel_rfl) #[tt, tt, tt, tt, tt, tt, tt, tt, tt, tt, tt, tt, tt, tt, tt, ff, ff, ff, ff, ff, ff, ff, ff, ff, ff, ff, ff, ff] (by kernel_rfl) (by kernel_rfl) (fun w' hw => v_p qc rfl w') (h.pick [0] rfl) rfl ?_
   refine qcS 15 rfl (by kernel_rfl) #[tt, tt, tt, tt, tt, tt, tt, tt, tt, tt, tt, tt, tt, tt, tt, tt, ff, ff, ff, ff, ff, ff, ff, ff, ff, ff, ff, ff] (by kernel_rfl) (by kernel_rfl) (fun w' hw => v_p qc rfl w') (h.pick [0] rfl) rfl ?_
   refine qcS 16 rfl (by kernel_rfl) #[tt, tt, tt, tt, tt, tt, tt, tt, tt, tt, tt, tt, tt, tt, tt, tt, tt, ff, ff, ff, ff, ff, ff, ff, ff, ff, ff, ff] (by kernel_rfl) (by kernel_rfl) (fun w' hw => v_p qc rfl w') (h.pick [0] rfl) rfl ?_
   obtain ⟨y2, hy2, hF⟩ := qd hF
   have he2 := qg hy2
   obtain ⟨b3, o_2, q2, cs4, hp2, hq2, -, hr4, hc6⟩ := s6.at hy2
   obtain rfl := hr4
   refine qcS 17 rfl (by kernel_rfl) #[tt, tt, tt, tt, tt, tt, tt, tt, tt, tt, tt, tt, tt, tt, tt, tt, tt, tt, ff, ff, ff, ff, ff, ff, ff, ff, ff, ff] (by kernel_rfl) (by kernel_rfl) (fun w' hw => qfA qc hp2 hq2 ⟨he2.1, he2.2.1⟩ rfl rfl rfl rfl rfl rfl) (h.pick [0] rfl) rfl ?_
   refine qcS 18 rfl (by kernel_rfl) #[tt, tt, tt, tt, tt, tt, tt, tt, tt, tt, tt, tt, tt, tt, tt, tt, tt, tt, tt, ff, ff, ff, ff, ff, ff, ff, ff, ff] (by kernel_rfl) (by kernel_rfl) (fun w' hw => qbE qc (hc6.below hw.below) (j := 0) rfl rfl rfl) (h.pick [0] rfl) rfl ?_
   refine qcS 20 rfl (by kernel_rfl) #[tt, tt, tt, tt, tt, tt, tt, tt, tt, tt, tt, tt, tt, tt, tt, tt, tt, tt, tt, ff, tt, ff, ff, ff, ff, ff, ff, ff] (by kernel_rfl) (by kernel_rfl) (fun w' hw => v_p qc rfl w') (h.pick [0] rfl) rfl ?_
   refine qcS 21 rfl (by kernel_rfl) #[tt, tt, tt, tt, tt, tt, tt, tt, tt, tt, tt, tt, tt, tt, tt, tt, tt, tt, tt, ff, tt, tt, ff, ff, ff, ff, ff, ff] (by kernel_rfl) (by kernel_rfl) (fun w' hw => v_p qc rfl w') (h.pick [0] rfl) rfl ?_
   obtain ⟨y3, hy3, hF⟩ := qd hF
   have he3 := qg hy3
   obtain ⟨b4, o_3, q3, cs5, hp3, hq3, -, hr5, hc7⟩ := s6.at hy3
   obtain rfl := hr5
   refine qcS 22 rfl (by kernel_rfl) #[tt, tt, tt, tt, tt, tt, tt, tt, tt, tt, tt, tt, tt, tt, tt, tt, tt, tt, tt, ff, tt, tt, tt, ff, ff, ff, ff, ff] (by kernel_rfl) (by kernel_rfl) (fun w' hw => qfA qc hp3 hq3 ⟨he3.1, he3.2.1⟩ rfl rfl rfl rfl rfl rfl) (h.pick [0] rfl) rfl ?_
   refine qcS 23 rfl (by kernel_rfl) #[tt, tt, tt, tt, tt, tt, tt, tt, tt, tt, tt, tt, tt, tt, tt, tt, tt, tt, tt, ff, tt, tt, tt, tt, ff, ff, ff, ff] (by kernel_rfl) (by kernel_rfl) (fun w' hw => qbE qc (hc7.below hw.below) (j := 0) rfl rfl rfl) (h.pick [0] rfl) rfl ?_
   refine qax 19 rfl #[tt, tt, tt, tt, tt, tt, tt, tt, tt, tt, tt, tt, tt, tt, tt, tt, tt, tt, tt, tt, tt, tt, tt, tt, ff, ff, ff, ff] (by kernel_rfl) (by kernel_rfl) ?_
   refine qa rfl ?_
   obtain ⟨r3, hr6, hF⟩ := qd hF
   refine qap r3 h call106 (qlc (h.old ha1) hr6) rfl rfl rfl rfl ?_
   intro w6 S1 p7 k7 h
   refine qao (fun _ => (h.pick [1] rfl)) ?_
   refine qax 24 rfl #[tt, tt, tt, tt, tt, tt, tt, tt, tt, tt, tt, tt, tt, tt, tt, tt, tt, tt, tt, tt, tt, tt, tt, tt, tt, ff, ff, ff] (by kernel_rfl) (by kernel_rfl) ?_
   refine qa rfl ?_
   obtain ⟨r4, hr7, hF⟩ := qd hF
   refine qN r4 h call79 (qhn (h.own 0 rfl) hr7) rfl rfl rfl rfl ?_
   intro w7 h
   refine qao (fun _ => (h.pick [1] rfl)) ?_
   refine qcS 25 rfl (by kernel_rfl) #[tt, tt, tt, tt, tt, tt, tt, tt, tt, tt, tt, tt, tt, tt, tt, tt, tt, tt, tt, tt, tt, tt, tt, tt, tt, tt, ff, ff] (by kernel_rfl) (by kernel_rfl) (fun w' hw => v_p qc rfl w') (h.pick [1] rfl) rfl ?_
   refine qcS 26 rfl (by kernel_rfl) #[tt, tt, tt, tt, tt, tt, tt, tt, tt, tt, tt, tt, tt, tt, tt, tt, tt, tt, tt, tt, tt, tt, tt, tt, tt, tt, tt, ff] (by kernel_rfl) (by kernel_rfl) (fun w' hw => v_p qc rfl w') (h.pick [1] rfl) rfl ?_
   refine qk 27 rfl #[tt, tt, tt, tt, tt, tt, tt, tt, tt, tt, tt, tt, tt, tt, tt, tt, tt, tt, tt, tt, tt, tt, tt, tt, tt, tt, tt, tt] (by kernel_rfl) (by kernel_rfl) (fun w' hw => v_p qc rfl w') (h.pick [1] rfl) rfl ?_
   refine qdn (by kernel_rfl) ?_
   refine qp rfl hF ?_ ?_ <;> intro hF
   ·refine zSR (zp1 rfl (qb ?_))
    obtain rfl := qj hF; replace hF := hK1
    exact qx qc h hF ⟨rfl, trivial⟩
   refine zKER (zp3 rfl (qb ?_))
   replace h := h.pick [1] rfl
   exact qy m1 [(1, _), (2, _), (5, _)] (Nat.lt_succ_self m1) ⟨rfl, rfl, rfl, trivial⟩ ⟨_, hF, rfl, h⟩
  replace hc5 := zb hc5
  replace hF := bifF hc5 hF
  refine qpk hc5 (t := 37) rfl ?_
  refine qcT 13 rfl (by kernel_rfl) rfl #[tt, tt, tt, tt, tt, tt, tt, tt, tt, tt, tt, tt, tt, tt, ff, ff, ff, ff, ff, ff, ff, ff, ff, ff, ff, ff, ff, ff] (by kernel_rfl) (by kernel_rfl) (h.pick [0] rfl) rfl ?_
  refine qcT 14 rfl (by kernel_rfl) rfl #[tt, tt, tt, tt, tt, tt, tt, tt, tt, tt, tt, tt, tt, tt, tt, ff, ff, ff, ff, ff, ff, ff, ff, ff, ff, ff, ff, ff] (by kernel_rfl) (by kernel_rfl) (h.pick [0] rfl) rfl ?_
  refine qcT 15 rfl (by kernel_rfl) rfl #[tt, tt, tt, tt, tt, tt, tt, tt, tt, tt, tt, tt, tt, tt, tt, tt, ff, ff, ff, ff, ff, ff, ff, ff, ff, ff, ff, ff] (by kernel_rfl) (by kernel_rfl) (h.pick [0] rfl) rfl ?_
  refine qcT 16 rfl (by kernel_rfl) rfl #[tt, tt, tt, tt, tt, tt, tt, tt, tt, tt, tt, tt, tt, tt, tt, tt, tt, ff, ff, ff, ff, ff, ff, ff, ff, ff, ff, ff] (by kernel_rfl) (by kernel_rfl) (h.pick [0] rfl) rfl ?_
  refine qcT 17 rfl (by kernel_rfl) rfl #[tt, tt, tt, tt, tt, tt, tt, tt, tt, tt, tt, tt, tt, tt, tt, tt, tt, tt, ff, ff, ff, ff, ff, ff, ff, ff, ff, ff] (by kernel_rfl) (by kernel_rfl) (h.pick [0] rfl) rfl ?_
  refine qcT 18 rfl (by kernel_rfl) rfl #[tt, tt, tt, tt, tt, tt, tt, tt, tt, tt, tt, tt, tt, tt, tt, tt, tt, tt, tt, ff, ff, ff, ff, ff, ff, ff, ff, ff] (by kernel_rfl) (by kernel_rfl) (h.pick [0] rfl) rfl ?_
  refine qcT 19 rfl (by kernel_rfl) rfl #[tt, tt, tt, tt, tt, tt, tt, tt, tt, tt, tt, tt, tt, tt, tt, tt, tt, tt, tt, tt, ff, ff, ff, ff, ff, ff, ff, ff] (by kernel_rfl) (by kernel_rfl) (h.pick [0] rfl) rfl ?_
  refine qcT 20 rfl (by kernel_rfl) rfl #[tt, tt, tt, tt, tt, tt, tt, tt, tt, tt, tt, tt, tt, tt, tt, tt, tt, tt, tt, tt, tt, ff, ff, ff, ff, ff, ff, ff] (by kernel_rfl) (by kernel_rfl) (h.pick [0] rfl) rfl ?_
  refine qcT 21 rfl (by kernel_rfl) rfl #[tt, tt, tt, tt, tt, tt, tt, tt, tt, tt, tt, tt, tt, tt, tt, tt, tt, tt, tt, tt, tt, tt, ff, ff, ff, ff, ff, ff] (by kernel_rfl) (by kernel_rfl) (h.pick [0] rfl) rfl ?_
  refine qcT 22 rfl (by kernel_rfl) rfl #[tt, tt, tt, tt, tt, tt, tt, tt, tt, tt, tt, tt, tt, tt, tt, tt, tt, tt, tt, tt, tt, tt, tt, ff, ff, ff, ff, ff] (by kernel_rfl) (by kernel_rfl) (h.pick [0] rfl) rfl ?_
  refine qcT 23 rfl (by kernel_rfl) rfl #[tt, tt, tt, tt, tt, tt, tt, tt, tt, tt, tt, tt, tt, tt, tt, tt, tt, tt, tt, tt, tt, tt, tt, tt, ff, ff, ff, ff] (by kernel_rfl) (by kernel_rfl) (h.pick [0] rfl) rfl ?_
  refine qcT 24 rfl (by kernel_rfl) rfl #[tt, tt, tt, tt, tt, tt, tt, tt, tt, tt, tt, tt, tt, tt, tt, tt, tt, tt, tt, tt, tt, tt, tt, tt, tt, ff, ff, ff] (by kernel_rfl) (by kernel_rfl) (h.pick [0] rfl) rfl ?_
  refine qcT 25 rfl (by kernel_rfl) rfl #[tt, tt, tt, tt, tt, tt, tt, tt, tt, tt, tt, tt, tt, tt, tt, tt, tt, tt, tt, tt, tt, tt, tt, tt, tt, tt, ff, ff] (by kernel_rfl) (by kernel_rfl) (h.pick [0] rfl) rfl ?_
  refine qcS 26 rfl (by kernel_rfl) #[tt, tt, tt, tt, tt, tt, tt, tt, tt, tt, tt, tt, tt, tt, tt, tt, tt, tt, tt, tt, tt, tt, tt, tt, tt, tt, tt, ff] (by kernel_rfl) (by kernel_rfl) (fun w' hw => v_p qc rfl w') (h.pick [0] rfl) rfl ?_
  refine qk 27 rfl #[tt, tt, tt, tt, tt, tt, tt, tt, tt, tt, tt, tt, tt, tt, tt, tt, tt, tt, tt, tt, tt, tt, tt, tt, tt, tt, tt, tt] (by kernel_rfl) (by kernel_rfl) (fun w' hw => v_p qc rfl w') (h.pick [0] rfl) rfl ?_
  refine qdn (by kernel_rfl) ?_
  exact qcG rfl rfl (zKER (zp3 rfl (qb (qy m1 [(1, _), (2, _), (5, _)] (Nat.lt_succ_self m1) ⟨rfl, rfl, rfl, trivial⟩ ⟨_, hF, rfl, h⟩))))
 refine qF rfl ?_
 obtain rfl := qj hF; replace hF := hK1
 exact zSR (zp1 rfl (qb (qx qc h hF ⟨rfl, trivial⟩)))

def qba (a_0 : qe) (a_1 : (List Int)) : Nat → Int → Int → Option (Int × Int)
 | 0, _, _ => none
 | n + 1, i1, i2 =>
  bif decide (i2 < (a_1.length : Int)) then
   bif decide (i1 < (a_0.Through.length : Int)) then
    (idx a_0.Through i1).bind fun y1 =>
    (idx a_1 i2).bind fun y2 =>
    bif (y1 == y2) then
     qba a_0 a_1 n (W64 (i1 + 1)) (W64 (i2 + 1))
    else
     qba a_0 a_1 n i1 (W64 (i2 + 1))
   else
    qba a_0 a_1 n i1 (W64 (i2 + 1))
  else
   some (i1, i2)

def qfz (n : Nat) (a_0 : qe) (a_1 : (List Int)) : Option Bool :=
 (
  bif decide ((a_0.From.length : Int) > 0) then
   (idx a_1 0).bind fun y3 =>
   (qeQ n a_0.From y3).bind fun r1 =>
   bif decide (r1 < 0) then
    some true
   else
    bif decide ((a_0.To.length : Int) > 0) then
     (idx a_1 (W64 ((a_1.length : Int) - 1))).bind fun y4 =>
     (qeQ n a_0.To y4).bind fun r2 =>
     some (decide (r2 < 0))
    else
     some false
  else
   bif decide ((a_0.To.length : Int) > 0) then
    (idx a_1 (W64 ((a_1.length : Int) - 1))).bind fun y5 =>
    (qeQ n a_0.To y5).bind fun r3 =>
    some (decide (r3 < 0))
   else
    some false).bind fun b1 =>
 bif b1 then
  some false
 else
  (qba a_0 a_1 n 0 0).bind fun o => match o with
  | (i1, _) =>
   some (i1 == (a_0.Through.length : Int))

theorem qkE {n : Nat} {w : World} {a_0 : qe} {a_1 : (List Int)} {cs1 : List Value} (ha1 : GoT.R w (old w) a_0 cs1) {cs2 : List Value} (ha2 : GoT.R w (old w) a_1 cs2) {r : Bool} (hF : qfz n a_0 a_1 = some r) : RetV Tryz.prog 64 [GoT.v qe cs1, GoT.v (List Int) cs2] w r := by
 obtain ⟨p1, k1, p2, k2, p3, k3, rfl, s1, s2, s3⟩ := qI ha1
 obtain ⟨p4, k4, rfl, s4⟩ := ha2
 refine qf Tryz.func64 rfl (m := 68) rfl rfl (fun h => ?_)
 rw [qfz] at hF
 refine zSR (qP h rfl rfl ?_)
 intro w1 bb1 h
 refine zp1 rfl (zNSS ?_)
 obtain ⟨KF1, hKF1, o2, hF, hK2⟩ := bindE hF
 refine qdR (fun e w' => ∃ (b1 : Bool), KF1 b1 = some r ∧ e = [(1, .slice p4 a_1.length k4), (2, .pointer (some ⟨bb1, 0, none⟩)), (37, .bool b1)] ∧ SH w w' [Ch.box bb1 [.int .i64 a_0.Kind, .int .i64 a_0.Value, .slice p1 a_0.From.length k1, .slice p2 a_0.Through.length k2, .slice p3 a_0.To.length k3] 87]) ?_ ?_
 ·refine qb3 rfl (by kernel_rfl) ?_
  refine zd1 rfl ?_
  refine zdl 0 2 h rfl ?_
  refine zd3 rfl ?_
  by_cases hc7 : (decide ((a_0.From.length : Int) > 0)) = true
  ·replace hF := bifT hc7 hF
   refine qch hc7 (t := 11) rfl (qh rfl (zd1 rfl (qh rfl ?_)))
   refine zdl 0 2 h rfl ?_
   refine qh rfl (zd1 rfl (qh rfl ?_))
   obtain ⟨y3, hy3, hF⟩ := qd hF
   have he3 := qg hy3
   obtain ⟨b4, o_3, q3, cs5, hp3, hq3, -, hr3, hc8⟩ := s4.at hy3
   obtain rfl := hr3
   refine zdxe hp3 hq3 he3 rfl ?_
   refine qh rfl ?_
   refine zdc 0 (hc8.below h.below) rfl ?_
   refine qh rfl ?_
   obtain ⟨r1, hr4, hF⟩ := qd hF
   refine qb7 r1 (vsI _) call79 (fun _ hb => qhn ⟨_, _, rfl, ((h.ext hb).oldS s1)⟩ hr4) rfl rfl rfl rfl ?_
   refine qh rfl (zd3 rfl ?_)
   by_cases hc9 : (decide (r1 < 0)) = true
   ·replace hF := bifT hc9 hF
    refine qch hc9 (t := 20) rfl (qi rfl rfl rfl (qi rfl rfl rfl (qi rfl rfl rfl (qi rfl rfl rfl (qi rfl rfl rfl (qi rfl rfl rfl (qi rfl rfl rfl (qi rfl rfl rfl (qi rfl rfl rfl (qi rfl rfl rfl (qi rfl rfl rfl ?_)))))))))))
    refine qi rfl rfl rfl (qi rfl rfl rfl (qi rfl rfl rfl (qi rfl rfl rfl (qi rfl rfl rfl (zd1 rfl ?_)))))
    refine qaR (fun w5 hb => ?_)
    replace h := h.ext hb
    clear hb
    obtain rfl := qj hF
    exact qu [(1, _), (2, _), (37, _)] ⟨rfl, rfl, rfl, trivial⟩ ⟨_, hK2, rfl, h⟩
   replace hc9 := zb hc9
   replace hF := bifF hc9 hF
   refine qci hc9 (t := 20) rfl (qh rfl (zd1 rfl (qh rfl ?_)))
   refine zdl 0 4 h rfl ?_
   refine qh rfl (zd1 rfl (qh rfl (zd1 rfl (qh rfl (zd1 rfl ?_)))))
   by_cases hc10 : (decide ((a_0.To.length : Int) > 0)) = true
   ·replace hF := bifT hc10 hF
    refine qch hc10 (t := 25) rfl (qh rfl (zd1 rfl (qh rfl ?_)))
    refine zdl 0 4 h rfl ?_
    refine qh rfl (zd1 rfl (qh rfl (zd1 rfl (qh rfl (zd1 rfl (qh rfl (zd1 rfl (qh rfl ?_))))))))
    obtain ⟨y4, hy4, hF⟩ := qd hF
    have he4 := qg hy4
    obtain ⟨b5, o_4, q4, cs6, hp4, hq4, -, hr5, hc11⟩ := s4.at hy4
    obtain rfl := hr5
    refine zdxe hp4 hq4 he4 rfl ?_
    refine qh rfl ?_
    refine zdc 0 (hc11.below h.below) rfl ?_
    refine qh rfl ?_
    obtain ⟨r2, hr6, hF⟩ := qd hF
    refine qb7 r2 (vsI _) call79 (fun _ hb => qhn ⟨_, _, rfl, ((h.ext hb).oldS s3)⟩ hr6) rfl rfl rfl rfl ?_
    refine qh rfl (zd1 rfl (qh rfl (zd2 rfl ?_)))
    refine qaR (fun w6 hb => ?_)
    replace h := h.ext hb
    clear hb
    obtain rfl := qj hF
    exact qu [(1, _), (2, _), (37, _)] ⟨rfl, rfl, rfl, trivial⟩ ⟨_, hK2, rfl, h⟩
   replace hc10 := zb hc10
   replace hF := bifF hc10 hF
   refine qci hc10 (t := 25) rfl (qi rfl rfl rfl (qi rfl rfl rfl (qi rfl rfl rfl (qi rfl rfl rfl (qi rfl rfl rfl (qi rfl rfl rfl (qi rfl rfl rfl (qi rfl rfl rfl (qi rfl rfl rfl (qi rfl rfl rfl (qh rfl ?_)))))))))))
   refine zd2 rfl ?_
   refine qaR (fun w7 hb => ?_)
   replace h := h.ext hb
   clear hb
   obtain rfl := qj hF
   exact qu [(1, _), (2, _), (37, _)] ⟨rfl, rfl, rfl, trivial⟩ ⟨_, hK2, rfl, h⟩
  replace hc7 := zb hc7
  replace hF := bifF hc7 hF
  refine qci hc7 (t := 11) rfl (qi rfl rfl rfl (qi rfl rfl rfl (qi rfl rfl rfl (qi rfl rfl rfl (qi rfl rfl rfl (qi rfl rfl rfl (qi rfl rfl rfl (zd2 rfl (qh rfl (zd1 rfl ?_))))))))))
  refine qh rfl ?_
  refine zdl 0 4 h rfl ?_
  refine qh rfl (zd1 rfl (qh rfl (zd1 rfl (qh rfl (zd1 rfl ?_)))))
  by_cases hc12 : (decide ((a_0.To.length : Int) > 0)) = true
  ·replace hF := bifT hc12 hF
   refine qch hc12 (t := 25) rfl (qh rfl (zd1 rfl (qh rfl ?_)))
   refine zdl 0 4 h rfl ?_
   refine qh rfl (zd1 rfl (qh rfl (zd1 rfl (qh rfl (zd1 rfl (qh rfl (zd1 rfl (qh rfl ?_))))))))
   obtain ⟨y5, hy5, hF⟩ := qd hF
   have he5 := qg hy5
   obtain ⟨b6, o_5, q5, cs7, hp5, hq5, -, hr7, hc13⟩ := s4.at hy5
   obtain rfl := hr7
   refine zdxe hp5 hq5 he5 rfl ?_
   refine qh rfl ?_
   refine zdc 0 (hc13.below h.below) rfl ?_
   refine qh rfl ?_
   obtain ⟨r3, hr8, hF⟩ := qd hF
   refine qb7 r3 (vsI _) call79 (fun _ hb => qhn ⟨_, _, rfl, ((h.ext hb).oldS s3)⟩ hr8) rfl rfl rfl rfl ?_
   refine qh rfl (zd1 rfl (qh rfl (zd2 rfl ?_)))
   refine qaR (fun w8 hb => ?_)
   replace h := h.ext hb
   clear hb
   obtain rfl := qj hF
   exact qu [(1, _), (2, _), (37, _)] ⟨rfl, rfl, rfl, trivial⟩ ⟨_, hK2, rfl, h⟩
  replace hc12 := zb hc12
  replace hF := bifF hc12 hF
  refine qci hc12 (t := 25) rfl (qi rfl rfl rfl (qi rfl rfl rfl (qi rfl rfl rfl (qi rfl rfl rfl (qi rfl rfl rfl (qi rfl rfl rfl (qi rfl rfl rfl (qi rfl rfl rfl (qi rfl rfl rfl (qi rfl rfl rfl (qh rfl ?_)))))))))))
  refine zd2 rfl ?_
  refine qaR (fun w9 hb => ?_)
  replace h := h.ext hb
  clear hb
  obtain rfl := qj hF
  exact qu [(1, _), (2, _), (37, _)] ⟨rfl, rfl, rfl, trivial⟩ ⟨_, hK2, rfl, h⟩
 rintro e2 w10 ⟨b1, hF, rfl, h⟩
 subst hKF1
 refine qp rfl hF ?_ ?_ <;> intro hF
 ·exact zSR (zp1 rfl (qb (qx qc h hF ⟨rfl, trivial⟩)))
 refine zKSR (zp1 rfl (zNSSR (zp1 rfl (qb ?_))))
 obtain ⟨o1, hF, hK1⟩ := qd hF
 refine qA (qW [(1, _), (2, _), (5, _), (6, _)] ⟨rfl, rfl, rfl, rfl, trivial⟩ ?_)
 refine qG (fun m e w' => ∃ (i1 : Int) (i2 : Int), qba a_0 a_1 m i1 i2 = some o1 ∧ e = [(1, .slice p4 a_1.length k4), (2, .pointer (some ⟨bb1, 0, none⟩)), (5, .int .i64 i1), (6, .int .i64 i2)] ∧ SH w w' [Ch.box bb1 [.int .i64 a_0.Kind, .int .i64 a_0.Value, .slice p1 a_0.From.length k1, .slice p2 a_0.Through.length k2, .slice p3 a_0.To.length k3] 87]) n ⟨_, _, hF, rfl, h⟩ ?_
 rintro m1 e1 w2 ⟨i1, i2, hF, rfl, h⟩
 rcases m1 with _ | m1
 ·rw [qba] at hF
  cases hF
 rw [qba] at hF
 refine zSSR (zp4 rfl (qb ?_))
 refine qp rfl hF ?_ ?_ <;> intro hF
 ·refine zKSB (qbl ?_)
  refine qb3 rfl (by kernel_rfl) ?_
  refine zd2 rfl ?_
  refine zdl 0 3 h rfl ?_
  refine zd3 rfl ?_
  by_cases hc3 : (decide (i1 < (a_0.Through.length : Int))) = true
  ·replace hF := bifT hc3 hF
   refine qch hc3 (t := 49) rfl (qh rfl (zd1 rfl (qh rfl ?_)))
   refine zdl 0 3 h rfl ?_
   refine qh rfl (zd1 rfl (qh rfl ?_))
   obtain ⟨y1, hy1, hF⟩ := qd hF
   have he1 := qg hy1
   obtain ⟨b2, o_1, q1, cs3, hp1, hq1, -, hr1, hc4⟩ := s2.at hy1
   obtain rfl := hr1
   refine zdxe hp1 hq1 he1 rfl ?_
   refine qh rfl ?_
   refine zdc 0 (hc4.below h.below) rfl ?_
   refine qh rfl (zd1 rfl (qh rfl (zd1 rfl (qh rfl ?_))))
   obtain ⟨y2, hy2, hF⟩ := qd hF
   have he2 := qg hy2
   obtain ⟨b3, o_2, q2, cs4, hp2, hq2, -, hr2, hc5⟩ := s4.at hy2
   obtain rfl := hr2
   refine zdxe hp2 hq2 he2 rfl ?_
   refine qh rfl ?_
   refine zdc 0 (hc5.below h.below) rfl ?_
   refine qh rfl (zd2 rfl ?_)
   refine qaR (fun w3 hb => ?_)
   replace h := h.ext hb
   clear hb
   refine qp rfl hF ?_ ?_ <;> intro hF
   ·exact qB (zp3 rfl (zNER (zp3 rfl (qb (qy m1 [(1, _), (2, _), (5, _), (6, _)] (Nat.lt_succ_self m1) ⟨rfl, rfl, rfl, rfl, trivial⟩ ⟨_, _, hF, rfl, h⟩)))))
   exact zKER (zp3 rfl (qb (qy m1 [(1, _), (2, _), (5, _), (6, _)] (Nat.lt_succ_self m1) ⟨rfl, rfl, rfl, rfl, trivial⟩ ⟨_, _, hF, rfl, h⟩)))
  replace hc3 := zb hc3
  replace hF := bifF hc3 hF
  refine qci hc3 (t := 49) rfl (qi rfl rfl rfl (qi rfl rfl rfl (qi rfl rfl rfl (qi rfl rfl rfl (qi rfl rfl rfl (qi rfl rfl rfl (qi rfl rfl rfl (qi rfl rfl rfl (qi rfl rfl rfl (qi rfl rfl rfl (zd1 rfl ?_)))))))))))
  refine qaR (fun w4 hb => ?_)
  replace h := h.ext hb
  clear hb
  exact qcG rfl rfl (zKER (zp3 rfl (qb (qy m1 [(1, _), (2, _), (5, _), (6, _)] (Nat.lt_succ_self m1) ⟨rfl, rfl, rfl, rfl, trivial⟩ ⟨_, _, hF, rfl, h⟩))))
 refine qF rfl ?_
 obtain rfl := qj hF; replace hF := hK1
 exact zSR (zp2 rfl (zl 0 3 h rfl (zp3 rfl (qb (qx qc h hF ⟨rfl, trivial⟩)))))

def qbv (s : (List Int)) (v : Int) : Nat → Int → Option (Flow Int Int)
 | 0, _ => none
 | n + 1, i1 =>
  bif decide (i1 < (s.length : Int)) then
   (idx s i1).bind fun y1 =>
   bif (v == y1) then
    some (.ret i1)
   else
    qbv s v n (W64 (i1 + 1))
  else
   some (.nxt i1)

def qfo (n : Nat) (s : (List Int)) (v : Int) : Option Int :=
 (qbv s v n 0).bind fun o => match o with
 | .ret r => some r
 | .nxt _ =>
  some (-1)

theorem qjH {n : Nat} {w : World} {s : (List Int)} {v : Int} {cs1 : List Value} (ha1 : GoT.R w (old w) s cs1) {r : Int} (hF : qfo n s v = some r) : RetV Tryz.prog 157 [GoT.v (List Int) cs1, .int .i64 v] w r := by
 obtain ⟨p1, k1, rfl, s1⟩ := ha1
 refine qf Tryz.func157 rfl (m := 19) rfl rfl (fun h => ?_)
 rw [qfo] at hF
 refine zSR (zp1 rfl (zNSSR (zp3 rfl (qb ?_))))
 obtain ⟨o1, hF, hK1⟩ := qd hF
 refine qA (qW [(0, _), (1, _), (7, _), (8, _)] ⟨rfl, rfl, rfl, rfl, trivial⟩ ?_)
 refine qG (fun m e w' => ∃ (i1 : Int), qbv s v m i1 = some o1 ∧ e = [(0, .slice p1 s.length k1), (1, .int .i64 v), (7, .int .i64 (s.length : Int)), (8, .int .i64 i1)] ∧ SH w w' []) n ⟨_, hF, rfl, h⟩ ?_
 rintro m1 e1 w1 ⟨i1, hF, rfl, h⟩
 rcases m1 with _ | m1
 ·rw [qbv] at hF
  cases hF
 rw [qbv] at hF
 refine zSR (zp1 rfl (zNS ?_))
 refine qp rfl hF ?_ ?_ <;> intro hF
 ·refine zKSBSR (zp2 rfl (zNSR (zp2 rfl ?_)))
  refine zp1 rfl ?_
  obtain ⟨y1, hy1, hF⟩ := qd hF
  have he1 := qg hy1
  obtain ⟨b1, o_1, q1, cs2, hp1, hq1, -, hr1, hc2⟩ := s1.at hy1
  obtain rfl := hr1
  refine zxe hp1 hq1 he1 rfl (zc 0 (hc2.below h.below) rfl (zp1 rfl (qb ?_)))
  refine qp rfl hF ?_ ?_ <;> intro hF
  ·refine zSR (zp2 rfl (qb ?_))
   obtain rfl := qj hF; replace hF := hK1
   exact qar qc h hF ⟨rfl, trivial⟩
  exact zKER (zp2 rfl (qb (qy m1 [(0, _), (1, _), (7, _), (8, _)] (Nat.lt_succ_self m1) ⟨rfl, rfl, rfl, rfl, trivial⟩ ⟨_, hF, rfl, h⟩)))
 refine qF rfl ?_
 obtain rfl := qj hF; replace hF := hK1
 exact zSR (zp1 rfl (qb (qar qc h hF ⟨rfl, trivial⟩)))

def qbS (n : Nat) (s : (List Int)) (v : Int) : Option Bool :=
 (qfo n s v).bind fun r1 =>
 some (decide (r1 ≥ 0))

theorem qeZ {n : Nat} {w : World} {s : (List Int)} {v : Int} {cs1 : List Value} (ha1 : GoT.R w (old w) s cs1) {r : Bool} (hF : qbS n s v = some r) : RetV Tryz.prog 114 [GoT.v (List Int) cs1, .int .i64 v] w r := by
 obtain ⟨p1, k1, rfl, s1⟩ := ha1
 refine qf Tryz.func114 rfl (m := 9) rfl rfl (fun h => ?_)
 rw [qbS] at hF
 refine zSR (zp1 rfl (zNSR (zp2 rfl ?_)))
 obtain ⟨r1, hr1, hF⟩ := qd hF
 refine qN r1 h call157 (qjH ⟨_, _, rfl, (h.oldS s1)⟩ hr1) rfl rfl rfl rfl ?_
 intro w1 h
 exact zp2 rfl (qb (qx qc h hF ⟨rfl, trivial⟩))

def qbi (v : (Option Tview)) (path : (List Int)) : Nat → Int → Option (Flow Bool Int)
 | 0, _ => none
 | n + 1, i1 =>
  bif decide (i1 < (path.length : Int)) then
   (idx path (W64 (i1 - 1))).bind fun y1 =>
   (idx path i1).bind fun y2 =>
   (qdO n v y1).bind fun r1 =>
   (qbS n r1 y2).bind fun r2 =>
   bif (!r2) then
    some (.ret false)
   else
    qbi v path n (W64 (i1 + 1))
  else
   some (.nxt i1)

def qdN (n : Nat) (v : (Option Tview)) (path : (List Int)) : Option Bool :=
 (
  (qan n path).bind fun r3 =>
  (qaY n r3 1 60).bind fun r4 =>
  bif (!r4) then
   some true
  else
   (v).bind fun y3 =>
   (qbq n y3.places).bind fun r5 =>
   (qby n path 0 (W64 (r5 - 1))).bind fun r6 =>
   some (!r6)).bind fun b1 =>
 bif b1 then
  some false
 else
  (qbi v path n 1).bind fun o => match o with
  | .ret r => some r
  | .nxt _ =>
   some true

theorem qjb {n : Nat} {w : World} {v : (Option Tview)} {path : (List Int)} {cs1 : List Value} (ha1 : GoT.R w (old w) v cs1) {cs2 : List Value} (ha2 : GoT.R w (old w) path cs2) {r : Bool} (hF : qdN n v path = some r) : RetV Tryz.prog 67 [GoT.v (Option Tview) cs1, GoT.v (List Int) cs2] w r := by
 obtain ⟨p1, rfl, s1⟩ := qhb ha1
 obtain ⟨p2, k1, rfl, s2⟩ := ha2
 refine qf Tryz.func67 rfl (m := 40) rfl rfl (fun h => ?_)
 rw [qdN] at hF
 refine zSR (zp1 rfl (zNSS ?_))
 obtain ⟨KF1, hKF1, o2, hF, hK2⟩ := bindE hF
 refine qdR (fun e w' => ∃ (b1 : Bool), KF1 b1 = some r ∧ e = [(0, .pointer p1), (1, .slice p2 path.length k1), (20, .bool b1)] ∧ SH w w' []) ?_ ?_
 ·refine qB (zp1 rfl ?_)
  obtain ⟨r3, hr5, hF⟩ := qd hF
  refine qN r3 h call87 (qbo ⟨_, _, rfl, (h.oldS s2)⟩ hr5) rfl rfl rfl rfl ?_
  intro w5 h
  obtain ⟨r4, hr6, hF⟩ := qd hF
  refine qm r4 h call86 (qaF hr6) rfl rfl rfl rfl ?_
  intro w6 h
  refine zp2 rfl ?_
  by_cases hc6 : (!r4) = true
  ·replace hF := bifT hc6 hF
   refine qC hc6 (t := 10) rfl (zn5 rfl (zn4 rfl (zp1 rfl (qb ?_))))
   obtain rfl := qj hF
   exact qu [(0, _), (1, _), (20, _)] ⟨rfl, rfl, rfl, trivial⟩ ⟨_, hK2, rfl, h⟩
  replace hc6 := zb hc6
  replace hF := bifF hc6 hF
  refine qD hc6 (t := 10) rfl (qa rfl (zp1 rfl (qa rfl (zp1 rfl (qa rfl ?_)))))
  obtain ⟨y3, hy3, hF⟩ := qd hF
  obtain ⟨b4, o_3, cs5, rfl, -, hr7, hc7⟩ := PtR.get s1 hy3
  obtain ⟨p4, k3, p5, k4, p6, k5, p7, k6, p8, k7, p9, k8, p10, k9, p11, k10, p12, k11, p13, k12, rfl, s3, s4, s5, s6, s7, s8, s9, s10, s11, s12⟩ := qjA hr7
  refine zp1 rfl (qa rfl (zp1 rfl (qa rfl (zc 5 (hc7.below h.below) rfl (qa rfl ?_)))))
  obtain ⟨r5, hr8, hF⟩ := qd hF
  refine qN r5 h call113 (qgl ⟨_, _, rfl, (h.oldS s8)⟩ hr8) rfl rfl rfl rfl ?_
  intro w7 h
  refine qa rfl (zp1 rfl (qa rfl ?_))
  obtain ⟨r6, hr9, hF⟩ := qd hF
  refine qm r6 h call112 (qct ⟨_, _, rfl, (h.oldS s2)⟩ hr9) rfl rfl rfl rfl ?_
  intro w8 h
  refine qa rfl (zp2 rfl (qb ?_))
  obtain rfl := qj hF
  exact qu [(0, _), (1, _), (20, _)] ⟨rfl, rfl, rfl, trivial⟩ ⟨_, hK2, rfl, h⟩
 rintro e2 w9 ⟨b1, hF, rfl, h⟩
 subst hKF1
 refine qp rfl hF ?_ ?_ <;> intro hF
 ·exact zSR (zp1 rfl (qb (qx qc h hF ⟨rfl, trivial⟩)))
 refine zKSSR (zp1 rfl (qb ?_))
 obtain ⟨o1, hF, hK1⟩ := qd hF
 refine qA (qW [(0, _), (1, _), (5, _)] ⟨rfl, rfl, rfl, trivial⟩ ?_)
 refine qG (fun m e w' => ∃ (i1 : Int), qbi v path m i1 = some o1 ∧ e = [(0, .pointer p1), (1, .slice p2 path.length k1), (5, .int .i64 i1)] ∧ SH w w' []) n ⟨_, hF, rfl, h⟩ ?_
 rintro m1 e1 w1 ⟨i1, hF, rfl, h⟩
 rcases m1 with _ | m1
 ·rw [qbi] at hF
  cases hF
 rw [qbi] at hF
 refine zSSR (zp4 rfl (qb ?_))
 refine qp rfl hF ?_ ?_ <;> intro hF
 ·refine zKSB (qbl ?_)
  refine qfO [] (fun w' => SH w w' []) rfl 13 rfl #[ff, ff, ff, ff, ff, ff, ff, ff, ff, ff, ff, ff, ff] (by kernel_rfl) (fun w2 hb => ?_)
  replace h := h.ext hb
  clear hb
  refine qk 0 rfl #[tt, ff, ff, ff, ff, ff, ff, ff, ff, ff, ff, ff, ff] (by kernel_rfl) (by kernel_rfl) (fun w' hw => v_p qc rfl w') (h.pick [] rfl) rfl ?_
  refine qk 1 rfl #[tt, tt, ff, ff, ff, ff, ff, ff, ff, ff, ff, ff, ff] (by kernel_rfl) (by kernel_rfl) (fun w' hw => v_p qc rfl w') (h.pick [] rfl) rfl ?_
  refine qk 2 rfl #[tt, tt, tt, ff, ff, ff, ff, ff, ff, ff, ff, ff, ff] (by kernel_rfl) (by kernel_rfl) (fun w' hw => v_p qc rfl w') (h.pick [] rfl) rfl ?_
  refine qk 3 rfl #[tt, tt, tt, tt, ff, ff, ff, ff, ff, ff, ff, ff, ff] (by kernel_rfl) (by kernel_rfl) (fun w' hw => v_p qc rfl w') (h.pick [] rfl) rfl ?_
  obtain ⟨y1, hy1, hF⟩ := qd hF
  have he1 := qg hy1
  obtain ⟨b2, o_1, q1, cs3, hp1, hq1, -, hr1, hc3⟩ := s2.at hy1
  obtain rfl := hr1
  refine qk 4 rfl #[tt, tt, tt, tt, tt, ff, ff, ff, ff, ff, ff, ff, ff] (by kernel_rfl) (by kernel_rfl) (fun w' hw => qfA qc hp1 hq1 ⟨he1.1, he1.2.1⟩ rfl rfl rfl rfl rfl rfl) (h.pick [] rfl) rfl ?_
  refine qk 5 rfl #[tt, tt, tt, tt, tt, tt, ff, ff, ff, ff, ff, ff, ff] (by kernel_rfl) (by kernel_rfl) (fun w' hw => qbE qc (hc3.below hw.below) (j := 0) rfl rfl rfl) (h.pick [] rfl) rfl ?_
  refine qk 7 rfl #[tt, tt, tt, tt, tt, tt, ff, tt, ff, ff, ff, ff, ff] (by kernel_rfl) (by kernel_rfl) (fun w' hw => v_p qc rfl w') (h.pick [] rfl) rfl ?_
  refine qk 8 rfl #[tt, tt, tt, tt, tt, tt, ff, tt, tt, ff, ff, ff, ff] (by kernel_rfl) (by kernel_rfl) (fun w' hw => v_p qc rfl w') (h.pick [] rfl) rfl ?_
  obtain ⟨y2, hy2, hF⟩ := qd hF
  have he2 := qg hy2
  obtain ⟨b3, o_2, q2, cs4, hp2, hq2, -, hr2, hc4⟩ := s2.at hy2
  obtain rfl := hr2
  refine qk 9 rfl #[tt, tt, tt, tt, tt, tt, ff, tt, tt, tt, ff, ff, ff] (by kernel_rfl) (by kernel_rfl) (fun w' hw => qfA qc hp2 hq2 ⟨he2.1, he2.2.1⟩ rfl rfl rfl rfl rfl rfl) (h.pick [] rfl) rfl ?_
  refine qk 10 rfl #[tt, tt, tt, tt, tt, tt, ff, tt, tt, tt, tt, ff, ff] (by kernel_rfl) (by kernel_rfl) (fun w' hw => qbE qc (hc4.below hw.below) (j := 0) rfl rfl rfl) (h.pick [] rfl) rfl ?_
  refine qax 6 rfl #[tt, tt, tt, tt, tt, tt, tt, tt, tt, tt, tt, ff, ff] (by kernel_rfl) (by kernel_rfl) ?_
  obtain ⟨r1, hr3, hF⟩ := qd hF
  refine qap r1 h call115 (qi8 (h.old s1) hr3) rfl rfl rfl rfl ?_
  intro w3 S1 p3 k2 h
  refine qao (fun _ => (h.pick [] rfl)) ?_
  refine qax 11 rfl #[tt, tt, tt, tt, tt, tt, tt, tt, tt, tt, tt, tt, ff] (by kernel_rfl) (by kernel_rfl) ?_
  obtain ⟨r2, hr4, hF⟩ := qd hF
  refine qm r2 h call114 (qeZ (h.own 0 rfl) hr4) rfl rfl rfl rfl ?_
  intro w4 h
  refine qao (fun _ => (h.pick [] rfl)) ?_
  refine qk 12 rfl #[tt, tt, tt, tt, tt, tt, tt, tt, tt, tt, tt, tt, tt] (by kernel_rfl) (by kernel_rfl) (fun w' hw => v_p qc rfl w') (h.pick [] rfl) rfl ?_
  refine qdn (by kernel_rfl) ?_
  refine qp rfl hF ?_ ?_ <;> intro hF
  ·refine zSR (zp1 rfl (qb ?_))
   obtain rfl := qj hF; replace hF := hK1
   exact qx qc h hF ⟨rfl, trivial⟩
  refine zKER (zp3 rfl (qb ?_))
  replace h := h.pick [] rfl
  exact qy m1 [(0, _), (1, _), (5, _)] (Nat.lt_succ_self m1) ⟨rfl, rfl, rfl, trivial⟩ ⟨_, hF, rfl, h⟩
 refine qF rfl ?_
 obtain rfl := qj hF; replace hF := hK1
 exact zSR (zp1 rfl (qb (qx qc h hF ⟨rfl, trivial⟩)))

def qcp (n : Nat) (a_e : qe) (found : Int) (place : Int) : Option Int :=
 bif decide (found ≥ 0) then
  (qan n a_e.Through).bind fun r1 =>
  bif decide (found < r1) then
   (idx a_e.Through found).bind fun y1 =>
   bif (y1 == place) then
    some (W64 (found + 1))
   else
    some found
  else
   some found
 else
  some found

theorem qfw {n : Nat} {w : World} {a_e : qe} {found : Int} {place : Int} {cs1 : List Value} (ha1 : GoT.R w (old w) a_e cs1) {r : Int} (hF : qcp n a_e found place = some r) : RetV Tryz.prog 98 [GoT.v qe cs1, .int .i64 found, .int .i64 place] w r := by
 obtain ⟨p1, k1, p2, k2, p3, k3, rfl, s1, s2, s3⟩ := qI ha1
 refine qf Tryz.func98 rfl (m := 28) rfl rfl (fun h => ?_)
 rw [qcp] at hF
 refine zSR (qP h rfl rfl ?_)
 intro w1 bb1 h
 refine zp1 rfl (zNSSR (zp3 rfl ?_))
 by_cases hc1 : (decide (found ≥ 0)) = true
 ·replace hF := bifT hc1 hF
  refine qC hc1 (t := 9) rfl (qa rfl (zp1 rfl (qa rfl (zp1 rfl (qa rfl (zl 0 3 h rfl (qa rfl ?_)))))))
  obtain ⟨r1, hr1, hF⟩ := qd hF
  refine qN r1 h call87 (qbo ⟨_, _, rfl, (h.oldS s2)⟩ hr1) rfl rfl rfl rfl ?_
  intro w2 h
  refine qa rfl (zp3 rfl ?_)
  by_cases hc2 : (decide (found < r1)) = true
  ·replace hF := bifT hc2 hF
   refine qC hc2 (t := 16) rfl (qa rfl (zp1 rfl (qa rfl (zl 0 3 h rfl (qa rfl (zp1 rfl (qa rfl ?_)))))))
   obtain ⟨y1, hy1, hF⟩ := qd hF
   have he1 := qg hy1
   obtain ⟨b1, o_1, q1, cs2, hp1, hq1, -, hr2, hc3⟩ := s2.at hy1
   obtain rfl := hr2
   refine zxe hp1 hq1 he1 rfl (qa rfl (zc 0 (hc3.below h.below) rfl (qa rfl (zp1 rfl (qa rfl (zp2 rfl (qb ?_)))))))
   refine qp rfl hF ?_ ?_ <;> intro hF
   ·exact zSR (zp3 rfl (qb (qar qc h hF ⟨rfl, trivial⟩)))
   exact zKSR (zp2 rfl (qb (qar qc h hF ⟨rfl, trivial⟩)))
  replace hc2 := zb hc2
  replace hF := bifF hc2 hF
  refine qD hc2 (t := 16) rfl (zn5 rfl (zn2 rfl (zp1 rfl (qb (qcG rfl rfl (qd1 ?_))))))
  exact zSR (zp2 rfl (qb (qar qc h hF ⟨rfl, trivial⟩)))
 replace hc1 := zb hc1
 replace hF := bifF hc1 hF
 refine qD hc1 (t := 9) rfl (zn5 rfl (zp2 rfl (zn4 rfl ?_)))
 refine zn3 rfl (zp1 rfl (qb (qcG rfl rfl (zKSR (zp2 rfl (qb ?_))))))
 exact qar qc h hF ⟨rfl, trivial⟩

def qdG (n : Nat) (a_e : qe) (place : Int) : Option Int :=
 bif decide ((a_e.From.length : Int) > 0) then
  (qbS n a_e.From place).bind fun r1 =>
  bif (!r1) then
   some (-1)
  else
   (qcp n a_e 0 place).bind fun r2 =>
   some r2
 else
  (qcp n a_e 0 place).bind fun r3 =>
  some r3

theorem qi4 {n : Nat} {w : World} {a_e : qe} {place : Int} {cs1 : List Value} (ha1 : GoT.R w (old w) a_e cs1) {r : Int} (hF : qdG n a_e place = some r) : RetV Tryz.prog 103 [GoT.v qe cs1, .int .i64 place] w r := by
 obtain ⟨p1, k1, p2, k2, p3, k3, rfl, s1, s2, s3⟩ := qI ha1
 refine qf Tryz.func103 rfl (m := 19) rfl rfl (fun h => ?_)
 rw [qdG] at hF
 refine zSR (qP h rfl rfl ?_)
 intro w1 bb1 h
 refine zp1 rfl (zNSSR (zp1 rfl (zl 0 2 h rfl (zp3 rfl ?_))))
 by_cases hc1 : (decide ((a_e.From.length : Int) > 0)) = true
 ·replace hF := bifT hc1 hF
  refine qC hc1 (t := 9) rfl (qa rfl (zp1 rfl (qa rfl (zl 0 2 h rfl (qa rfl (zp1 rfl (qa rfl ?_)))))))
  obtain ⟨r1, hr1, hF⟩ := qd hF
  refine qm r1 h call114 (qeZ ⟨_, _, rfl, (h.oldS s1)⟩ hr1) rfl rfl rfl rfl ?_
  intro w2 h
  refine qa rfl (zp2 rfl (qb ?_))
  refine qp rfl hF ?_ ?_ <;> intro hF
  ·exact zSR (zp1 rfl (qb (qar qc h hF ⟨rfl, trivial⟩)))
  refine zKSR (zl 0 0 h rfl (zp1 rfl ?_))
  obtain ⟨r2, hr2, hF⟩ := qd hF
  refine qN r2 h call98 (qfw (h.old ha1) hr2) rfl rfl rfl rfl ?_
  intro w3 h
  exact zp1 rfl (qb (qar qc h hF ⟨rfl, trivial⟩))
 replace hc1 := zb hc1
 replace hF := bifF hc1 hF
 refine qD hc1 (t := 9) rfl (zn5 rfl (zp1 rfl (qb (qcG rfl rfl (zKSR ?_)))))
 refine zl 0 0 h rfl (zp1 rfl ?_)
 obtain ⟨r3, hr3, hF⟩ := qd hF
 refine qN r3 h call98 (qfw (h.old ha1) hr3) rfl rfl rfl rfl ?_
 intro w4 h
 exact zp1 rfl (qb (qar qc h hF ⟨rfl, trivial⟩))

def qdw (y1 : qe) (x2 : (List Int)) : Nat → Int → Int → Option (Int × Int)
 | 0, _, _ => none
 | n + 1, i2, i3 =>
  bif decide (i3 < (x2.length : Int)) then
   (idx x2 i3).bind fun y3 =>
   (qcp n y1 i2 y3).bind fun r2 =>
   qdw y1 x2 n r2 (W64 (i3 + 1))
  else
   some (i2, i3)

def qdu (list : (List qe)) (path : (List Int)) : Nat → (List Int) → Int → Option ((List Int) × Int)
 | 0, _, _ => none
 | n + 1, x1, i1 =>
  bif decide (i1 < (list.length : Int)) then
   (idx list i1).bind fun y1 =>
   (idx path 0).bind fun y2 =>
   (qdG n y1 y2).bind fun r1 =>
   (subS path 1 (path.length : Int)).bind fun x2 =>
   (qdw y1 x2 n r1 0).bind fun o => match o with
   | (i2, _) =>
    (appS x1 ([i2] : List Int)).bind fun x3 =>
    qdu list path n x3 (W64 (i1 + 1))
  else
   some (x1, i1)

def qiu (n : Nat) (list : (List qe)) (path : (List Int)) : Option (List Int) :=
 (qdu list path n ([] : List Int) 0).bind fun o => match o with
 | (x1, _) =>
  some x1

theorem qnb {n : Nat} {w : World} {list : (List qe)} {path : (List Int)} {cs1 : List Value} (ha1 : GoT.R w (old w) list cs1) {cs2 : List Value} (ha2 : GoT.R w (old w) path cs2) {r : (List Int)} (hF : qiu n list path = some r) : RetV Tryz.prog 61 [GoT.v (List qe) cs1, GoT.v (List Int) cs2] w r := by
 obtain ⟨p1, k1, rfl, s1⟩ := ha1
 obtain ⟨p2, k2, rfl, s2⟩ := ha2
 refine qf Tryz.func61 rfl (m := 40) rfl rfl (fun h => ?_)
 rw [qiu] at hF
 refine zSR (zp1 rfl (zNSR (zp1 rfl (zNSSR (zp1 rfl ?_)))))
 refine zp2 rfl (qb ?_)
 replace h := h.nil (α := Int)
 obtain ⟨o1, hF, hK1⟩ := qd hF
 refine qA (qW [(1, _), (5, _), (11, _), (12, _), (13, _)] ⟨rfl, rfl, rfl, rfl, rfl, trivial⟩ ?_)
 refine qG (fun m e w' => ∃ (S1 : Nat → Prop) (p3 : Option Addr) (ln1 : Nat) (k3 : Nat) (x1 : (List Int)) (i1 : Int), qdu list path m x1 i1 = some o1 ∧ e = [(1, .slice p2 path.length k2), (5, .slice p3 ln1 k3), (11, .slice p1 list.length k1), (12, .int .i64 (list.length : Int)), (13, .int .i64 i1)] ∧ SH w w' [Ch.own S1 (x1 : List Int) [.slice p3 ln1 k3]]) n ⟨_, _, _, _, _, _, hF, rfl, h⟩ ?_
 rintro m1 e1 w1 ⟨S1, p3, ln1, k3, x1, i1, hF, rfl, h⟩
 obtain rfl := (h.sl 0 rfl).2
 rcases m1 with _ | m1
 ·rw [qdu] at hF
  cases hF
 rw [qdu] at hF
 refine zSR (zp1 rfl (zNS ?_))
 refine qp rfl hF ?_ ?_ <;> intro hF
 ·refine zKSBSR ?_
  obtain ⟨y1, hy1, hF⟩ := qd hF
  have he1 := qg hy1
  obtain ⟨b1, o_1, q1, cs3, hp1, hq1, -, hr1, hc2⟩ := s1.at hy1
  obtain ⟨p4, k4, p5, k5, p6, k6, rfl, s3, s4, s5⟩ := qI hr1
  refine zxe hp1 hq1 he1 rfl (zc 0 (hc2.below h.below) rfl (qT qc h rfl rfl rfl ?_))
  intro w2 bb1 h
  refine zs 0 h rfl ?_
  intro w3 h
  replace h : SH _ _ [Ch.box bb1 [.int .i64 y1.Kind, .int .i64 y1.Value, .slice p4 y1.From.length k4, .slice p5 y1.Through.length k5, .slice p6 y1.To.length k6] 87, Ch.own S1 (x1 : List Int) [.slice p3 x1.length k3]] := h
  refine zNS ?_
  refine qb3 rfl (by kernel_rfl) ?_
  refine zdl 0 0 h rfl ?_
  refine zd1 rfl ?_
  obtain ⟨y2, hy2, hF⟩ := qd hF
  have he2 := qg hy2
  obtain ⟨b2, o_2, q2, cs4, hp2, hq2, -, hr2, hc3⟩ := s2.at hy2
  obtain rfl := hr2
  refine zdxe hp2 hq2 he2 rfl ?_
  refine zdc 0 (hc3.below h.below) rfl ?_
  obtain ⟨r1, hr3, hF⟩ := qd hF
  refine qb7 r1 (vsI _) call103 (fun _ hb => qi4 (qaO y1 ((h.ext hb).oldS s3) ((h.ext hb).oldS s4) ((h.ext hb).oldS s5)) hr3) rfl rfl rfl rfl ?_
  refine zd1 rfl ?_
  refine qaR (fun w4 hb => ?_)
  replace h := h.ext hb
  clear hb
  refine zSSR (zp1 rfl ?_)
  obtain ⟨x2, hx1, hF⟩ := qd hF
  obtain ⟨p7, k7, hp3, hk1, hl1, g1⟩ := qoR (h.oldS s2) hx1
  refine r_v (qmh qc rfl rfl rfl (qpg g1 rfl) hp3 hk1 hl1 rfl rfl rfl rfl) rfl ?_
  have s6 := qpo s2 hx1 hp3 hk1
  refine zp2 rfl (qb ?_)
  obtain ⟨o2, hF, hK2⟩ := qd hF
  refine qA (qW [(1, _), (5, _), (7, _), (8, _), (11, _), (12, _), (13, _), (23, _), (24, _), (25, _)] ⟨rfl, rfl, rfl, rfl, rfl, rfl, rfl, rfl, rfl, rfl, trivial⟩ ?_)
  refine qG (fun m e w' => ∃ (i2 : Int) (i3 : Int), qdw y1 x2 m i2 i3 = some o2 ∧ e = [(1, .slice p2 path.length k2), (5, .slice p3 x1.length k3), (7, .pointer (some ⟨bb1, 0, none⟩)), (8, .int .i64 i2), (11, .slice p1 list.length k1), (12, .int .i64 (list.length : Int)), (13, .int .i64 i1), (23, .slice p7 x2.length k7), (24, .int .i64 (x2.length : Int)), (25, .int .i64 i3)] ∧ SH w w' [Ch.box bb1 [.int .i64 y1.Kind, .int .i64 y1.Value, .slice p4 y1.From.length k4, .slice p5 y1.Through.length k5, .slice p6 y1.To.length k6] 87, Ch.own S1 (x1 : List Int) [.slice p3 x1.length k3]]) m1 ⟨_, _, hF, rfl, h⟩ ?_
  rintro m2 e2 w5 ⟨i2, i3, hF, rfl, h⟩
  rcases m2 with _ | m2
  ·rw [qdw] at hF
   cases hF
  rw [qdw] at hF
  refine zSR (zp1 rfl (zNS ?_))
  refine qp rfl hF ?_ ?_ <;> intro hF
  ·refine zKSBSR ?_
   obtain ⟨y3, hy3, hF⟩ := qd hF
   have he3 := qg hy3
   obtain ⟨b3, o_3, q3, cs5, hp4, hq3, -, hr4, hc5⟩ := s6.at hy3
   obtain rfl := hr4
   refine zxe hp4 hq3 he3 rfl (zc 0 (hc5.below h.below) rfl (zp1 rfl (qb (qB (zl 0 0 h rfl (zp2 rfl ?_))))))
   obtain ⟨r2, hr5, hF⟩ := qd hF
   refine qN r2 h call98 (qfw (qaO y1 (h.oldS s3) (h.oldS s4) (h.oldS s5)) hr5) rfl rfl rfl rfl ?_
   intro w6 h
   exact zp1 rfl (zNER (zp2 rfl (qb (qy m2 [(1, _), (5, _), (7, _), (8, _), (11, _), (12, _), (13, _), (23, _), (24, _), (25, _)] (Nat.lt_succ_self m2) ⟨rfl, rfl, rfl, rfl, rfl, rfl, rfl, rfl, rfl, rfl, trivial⟩ ⟨_, _, hF, rfl, h⟩))))
  refine qF rfl ?_
  obtain rfl := qj hF; replace hF := hK2
  refine qB (zp2 rfl (qaN qc [.tmp 35] _ ([i2] : List Int) h rfl rfl rfl rfl rfl rfl rfl rfl rfl ⟨rfl, trivial⟩ rfl ?_))
  intro w7 p8 S2 h
  obtain ⟨x3, hx2, hF⟩ := qd hF
  obtain ⟨g2, hx2⟩ := qbm hx2
  refine qeC qc 2 h rfl (h.sl 0 rfl).1 (h.sl 0 rfl).2 rfl rfl rfl rfl rfl rfl rfl rfl rfl g2 hx2 rfl ?_
  intro w8 p9 k8 S3 h
  refine zp1 rfl (zNER (zp2 rfl (qb ?_)))
  replace h := h.pick [2] rfl
  exact qy m1 [(1, _), (5, _), (11, _), (12, _), (13, _)] (Nat.lt_succ_self m1) ⟨rfl, rfl, rfl, rfl, rfl, trivial⟩ ⟨_, _, _, _, _, _, hF, rfl, h⟩
 refine qF rfl ?_
 obtain rfl := qj hF; replace hF := hK1
 refine zSR (zp2 rfl (qb ?_))
 obtain rfl := qj hF
 exact qad qc (ρ := (List Int)) [GoT.v (List Int) [.slice p3 x1.length k3]] h ⟨rfl, trivial⟩ (PV.done h (qai (qaB 0 h rfl)))

def qc2 (n : Nat) (a_e : qe) (found : Int) (a_end : Int) : Option Bool :=
 (qan n a_e.Through).bind fun r1 =>
 bif (found == r1) then
  bif ((a_e.To.length : Int) == 0) then
   some true
  else
   (qbS n a_e.To a_end).bind fun r2 =>
   some r2
 else
  some false

theorem qiL {n : Nat} {w : World} {a_e : qe} {found : Int} {a_end : Int} {cs1 : List Value} (ha1 : GoT.R w (old w) a_e cs1) {r : Bool} (hF : qc2 n a_e found a_end = some r) : RetV Tryz.prog 88 [GoT.v qe cs1, .int .i64 found, .int .i64 a_end] w r := by
 obtain ⟨p1, k1, p2, k2, p3, k3, rfl, s1, s2, s3⟩ := qI ha1
 refine qf Tryz.func88 rfl (m := 24) rfl rfl (fun h => ?_)
 rw [qc2] at hF
 refine zSR (qP h rfl rfl ?_)
 intro w1 bb1 h
 refine zp1 rfl (zNSR (zp2 rfl (zl 0 3 h rfl ?_)))
 obtain ⟨r1, hr1, hF⟩ := qd hF
 refine qN r1 h call87 (qbo ⟨_, _, rfl, (h.oldS s2)⟩ hr1) rfl rfl rfl rfl ?_
 intro w2 h
 refine zp2 rfl ?_
 by_cases hc1 : (found == r1) = true
 ·replace hF := bifT hc1 hF
  refine qC hc1 (t := 12) rfl (qa rfl (zp1 rfl (qa rfl (zl 0 4 h rfl (qa rfl (zp1 rfl (qa rfl (zp1 rfl (qa rfl (zp1 rfl ?_))))))))))
  by_cases hc2 : ((a_e.To.length : Int) == 0) = true
  ·replace hF := bifT hc2 hF
   exact qC hc2 (t := 17) rfl (zn4 rfl (qa rfl (zp3 rfl (qb (qx qc h hF ⟨rfl, trivial⟩)))))
  replace hc2 := zb hc2
  replace hF := bifF hc2 hF
  refine qD hc2 (t := 17) rfl (qa rfl (zp1 rfl (qa rfl (zl 0 4 h rfl (qa rfl (zp1 rfl (qa rfl ?_)))))))
  obtain ⟨r2, hr2, hF⟩ := qd hF
  refine qm r2 h call114 (qeZ ⟨_, _, rfl, (h.oldS s3)⟩ hr2) rfl rfl rfl rfl ?_
  intro w3 h
  exact qa rfl (zp3 rfl (qb (qx qc h hF ⟨rfl, trivial⟩)))
 replace hc1 := zb hc1
 replace hF := bifF hc1 hF
 refine qD hc1 (t := 12) rfl (zn5 rfl (zn5 rfl (zp1 rfl ?_)))
 exact zp1 rfl (qb (qx qc h hF ⟨rfl, trivial⟩))

end Go.Fw


namespace Go.Fw
open Go Go.Proofs
open Go.RowKit (Below)
set_option maxRecDepth 100000
set_option maxHeartbeats 1600000
def qde (b : qz) (list : (List qe)) : Nat → Int → Option (Flow Int Int)
 | 0, _ => none
 | n + 1, i1 =>
  bif decide (i1 < (list.length : Int)) then
   (idx list i1).bind fun y1 =>
   (qe8 n b y1).bind fun r2 =>
   bif (!r2) then
    some (.ret 5)
   else
    qde b list n (W64 (i1 + 1))
  else
   some (.nxt i1)

def qg8 (n : Nat) (b : qz) (list : (List qe)) : Option Int :=
 (qfv n b).bind fun r1 =>
 bif (!r1) then
  some 1
 else
  bif decide ((list.length : Int) > 6) then
   some 3
  else
   (qde b list n 0).bind fun o => match o with
   | .ret r => some r
   | .nxt _ =>
    some 0

theorem qlU {n : Nat} {w : World} {b : qz} {list : (List qe)} {cs1 : List Value} (ha1 : GoT.R w (old w) b cs1) {cs2 : List Value} (ha2 : GoT.R w (old w) list cs2) {r : Int} (hF : qg8 n b list = some r) : RetV Tryz.prog 62 [GoT.v qz cs1, GoT.v (List qe) cs2] w r := by
 obtain ⟨p1, k1, p2, k2, p3, k3, p4, k4, p5, k5, rfl, s1, s2, s3, s4, s5⟩ := qat ha1
 obtain ⟨p6, k6, rfl, s6⟩ := ha2
 refine qf Tryz.func62 rfl (m := 25) rfl rfl (fun h => ?_)
 rw [qg8] at hF
 refine zSR (qP h rfl rfl ?_)
 intro w1 bb1 h
 refine zp1 rfl (zNSSR (zl 0 0 h rfl ?_))
 obtain ⟨r1, hr1, hF⟩ := qd hF
 refine qm r1 h call104 (qic (h.old ha1) hr1) rfl rfl rfl rfl ?_
 intro w2 h
 refine zp1 rfl (qb ?_)
 refine qp rfl hF ?_ ?_ <;> intro hF
 ·exact zSR (zp1 rfl (qb (qar qc h hF ⟨rfl, trivial⟩)))
 refine zKSSR (zp3 rfl (qb ?_))
 refine qp rfl hF ?_ ?_ <;> intro hF
 ·exact zSR (zp1 rfl (qb (qar qc h hF ⟨rfl, trivial⟩)))
 refine zKSSR (zp1 rfl (qb ?_))
 obtain ⟨o1, hF, hK1⟩ := qd hF
 refine qA (qW [(1, _), (2, _), (5, _)] ⟨rfl, rfl, rfl, trivial⟩ ?_)
 refine qG (fun m e w' => ∃ (i1 : Int), qde b list m i1 = some o1 ∧ e = [(1, .slice p6 list.length k6), (2, .pointer (some ⟨bb1, 0, none⟩)), (5, .int .i64 i1)] ∧ SH w w' [Ch.box bb1 [.slice p1 b.Library.Cells.length k1, .slice p2 b.Design.Instances.length k2, .slice p3 b.Design.Nets.length k3, .slice p4 b.Design.Ports.length k4, .slice p5 b.Wires.length k5] 50]) n ⟨_, hF, rfl, h⟩ ?_
 rintro m1 e1 w3 ⟨i1, hF, rfl, h⟩
 rcases m1 with _ | m1
 ·rw [qde] at hF
  cases hF
 rw [qde] at hF
 refine zSSR (zp4 rfl (qb ?_))
 refine qp rfl hF ?_ ?_ <;> intro hF
 ·refine zKSB (qbl ?_)
  refine qb3 rfl (by kernel_rfl) ?_
  refine zdl 0 0 h rfl ?_
  refine zd2 rfl ?_
  obtain ⟨y1, hy1, hF⟩ := qd hF
  have he1 := qg hy1
  obtain ⟨b1, o_1, q1, cs3, hp1, hq1, -, hr2, hc4⟩ := s6.at hy1
  obtain ⟨p7, k7, p8, k8, p9, k9, rfl, s7, s8, s9⟩ := qI hr2
  refine zdxe hp1 hq1 he1 rfl ?_
  refine zdc 0 (hc4.below h.below) rfl ?_
  obtain ⟨r2, hr3, hF⟩ := qd hF
  refine qb7 r2 (vsB _) call105 (fun _ hb => qko ((h.ext hb).old ha1) (qaO y1 ((h.ext hb).oldS s7) ((h.ext hb).oldS s8) ((h.ext hb).oldS s9)) hr3) rfl rfl rfl rfl ?_
  refine zd1 rfl ?_
  refine qaR (fun w4 hb => ?_)
  replace h := h.ext hb
  clear hb
  refine qp rfl hF ?_ ?_ <;> intro hF
  ·refine zSR (zp1 rfl (qb ?_))
   obtain rfl := qj hF; replace hF := hK1
   exact qar qc h hF ⟨rfl, trivial⟩
  exact zKER (zp3 rfl (qb (qy m1 [(1, _), (2, _), (5, _)] (Nat.lt_succ_self m1) ⟨rfl, rfl, rfl, trivial⟩ ⟨_, hF, rfl, h⟩)))
 refine qF rfl ?_
 obtain rfl := qj hF; replace hF := hK1
 exact zSR (zp1 rfl (qb (qar qc h hF ⟨rfl, trivial⟩)))

def qdK (n : Nat) (a_e : qe) (v0 : (Option Tview)) : Option Bool :=
 (qdm n v0 a_e).bind fun r1 =>
 some (!r1)

theorem qjg {n : Nat} {w : World} {a_e : qe} {v0 : (Option Tview)} {cs1 : List Value} (ha1 : GoT.R w (old w) a_e cs1) {p4 : Option Addr} (ha2 : GoT.R w (old w) (some v0) [.pointer p4]) {r : Bool} (hF : qdK n a_e v0 = some r) : RetV Tryz.prog 110 [GoT.v qe cs1, .pointer p4] w r := by
 obtain ⟨p1, k1, p2, k2, p3, k3, rfl, s1, s2, s3⟩ := qI ha1
 obtain ⟨b1, o_1, cs2, rfl, -, hr1, hc1⟩ := PtR.get ha2 rfl
 obtain ⟨p5, rfl, s4⟩ := qhb hr1
 refine qf Tryz.func110 rfl (m := 8) rfl rfl (fun h => ?_)
 rw [qdK] at hF
 refine zSR (qP h rfl rfl ?_)
 intro w1 bb1 h
 refine zp1 rfl (zNSR (zc 0 (hc1.below h.below) rfl (zl 0 0 h rfl ?_)))
 obtain ⟨r1, hr2, hF⟩ := qd hF
 refine qm r1 h call111 (qiZ (h.old s4) (h.old ha1) hr2) rfl rfl rfl rfl ?_
 intro w2 h
 exact zp2 rfl (qb (qx qc h hF ⟨rfl, trivial⟩))

def qH (s : (List qe)) (f_0 : (Option Tview)) : Nat → Int → Option (Flow Int Int)
 | 0, _ => none
 | n + 1, i1 =>
  bif decide (i1 < (s.length : Int)) then
   (idx s i1).bind fun y1 =>
   (qdK n y1 f_0).bind fun r1 =>
   bif r1 then
    some (.ret i1)
   else
    qH s f_0 n (W64 (i1 + 1))
  else
   some (.nxt i1)

def qav (n : Nat) (s : (List qe)) (f_0 : (Option Tview)) : Option Int :=
 (qH s f_0 n 0).bind fun o => match o with
 | .ret r => some r
 | .nxt _ =>
  some (-1)

theorem qdQ {n : Nat} {w : World} {s : (List qe)} {f_0 : (Option Tview)} {cs1 : List Value} (ha1 : GoT.R w (old w) s cs1) {p2 : Option Addr} (ha2 : GoT.R w (old w) (some f_0) [.pointer p2]) {r : Int} (hF : qav n s f_0 = some r) : RetV Tryz.prog 129 [GoT.v (List qe) cs1, .func (.func 110) #[] #[.pointer p2]] w r := by
 obtain ⟨p1, k1, rfl, s1⟩ := ha1
 obtain ⟨b1, o_1, cs2, rfl, -, hr1, hc1⟩ := PtR.get ha2 rfl
 obtain ⟨p3, rfl, s2⟩ := qhb hr1
 refine qf Tryz.func129 rfl (m := 19) rfl rfl (fun h => ?_)
 rw [qav] at hF
 refine zSR (zp1 rfl (zNSSR (zp3 rfl (qb ?_))))
 obtain ⟨o1, hF, hK1⟩ := qd hF
 refine qA (qW [(0, _), (1, _), (7, _), (8, _)] ⟨rfl, rfl, rfl, rfl, trivial⟩ ?_)
 refine qG (fun m e w' => ∃ (i1 : Int), qH s f_0 m i1 = some o1 ∧ e = [(0, .slice p1 s.length k1), (1, .func (.func 110) #[] #[.pointer (some ⟨b1, o_1, none⟩)]), (7, .int .i64 (s.length : Int)), (8, .int .i64 i1)] ∧ SH w w' []) n ⟨_, hF, rfl, h⟩ ?_
 rintro m1 e1 w1 ⟨i1, hF, rfl, h⟩
 rcases m1 with _ | m1
 ·rw [qH] at hF
  cases hF
 rw [qH] at hF
 refine zSR (zp1 rfl (zNS ?_))
 refine qp rfl hF ?_ ?_ <;> intro hF
 ·refine zKSBSR (zp2 rfl (zNSR (zp2 rfl ?_)))
  refine zp1 rfl ?_
  obtain ⟨y1, hy1, hF⟩ := qd hF
  have he1 := qg hy1
  obtain ⟨b2, o_2, q1, cs3, hp1, hq1, -, hr2, hc3⟩ := s1.at hy1
  obtain ⟨p4, k2, p5, k3, p6, k4, rfl, s3, s4, s5⟩ := qI hr2
  refine zxe hp1 hq1 he1 rfl (zc 0 (hc3.below h.below) rfl ?_)
  obtain ⟨r1, hr3, hF⟩ := qd hF
  refine qm r1 h call110 (qjg (qaO y1 (h.oldS s3) (h.oldS s4) (h.oldS s5)) (h.old ha2) hr3) rfl rfl rfl rfl ?_
  intro w2 h
  refine qb ?_
  refine qp rfl hF ?_ ?_ <;> intro hF
  ·refine zSR (zp2 rfl (qb ?_))
   obtain rfl := qj hF; replace hF := hK1
   exact qar qc h hF ⟨rfl, trivial⟩
  exact zKER (zp2 rfl (qb (qy m1 [(0, _), (1, _), (7, _), (8, _)] (Nat.lt_succ_self m1) ⟨rfl, rfl, rfl, rfl, trivial⟩ ⟨_, hF, rfl, h⟩)))
 refine qF rfl ?_
 obtain rfl := qj hF; replace hF := hK1
 exact zSR (zp1 rfl (qb (qar qc h hF ⟨rfl, trivial⟩)))

def qZ (n : Nat) (s : (List qe)) (f_0 : (Option Tview)) : Option Bool :=
 (qav n s f_0).bind fun r1 =>
 some (decide (r1 ≥ 0))

theorem qdt {n : Nat} {w : World} {s : (List qe)} {f_0 : (Option Tview)} {cs1 : List Value} (ha1 : GoT.R w (old w) s cs1) {p2 : Option Addr} (ha2 : GoT.R w (old w) (some f_0) [.pointer p2]) {r : Bool} (hF : qZ n s f_0 = some r) : RetV Tryz.prog 90 [GoT.v (List qe) cs1, .func (.func 110) #[] #[.pointer p2]] w r := by
 obtain ⟨p1, k1, rfl, s1⟩ := ha1
 obtain ⟨b1, o_1, cs2, rfl, -, hr1, hc1⟩ := PtR.get ha2 rfl
 obtain ⟨p3, rfl, s2⟩ := qhb hr1
 refine qf Tryz.func90 rfl (m := 9) rfl rfl (fun h => ?_)
 rw [qZ] at hF
 refine zSR (zp1 rfl (zNSR (zp2 rfl ?_)))
 obtain ⟨r1, hr2, hF⟩ := qd hF
 refine qN r1 h call129 (qdQ ⟨_, _, rfl, (h.oldS s1)⟩ (h.old ha2) hr2) rfl rfl rfl rfl ?_
 intro w1 h
 exact zp2 rfl (qb (qx qc h hF ⟨rfl, trivial⟩))

def qeq (n : Nat) (b : qz) (list : (List qe)) : Option ((Option Tview) × Int) :=
 (qhh n b).bind fun r1 =>
 bif (!r1) then
  some (none, 1)
 else
  bif decide ((list.length : Int) > 6) then
   some (none, 3)
  else
   (qhk n b).bind fun r2 =>
   (qZ n list r2).bind fun r3 =>
   bif r3 then
    some (none, 5)
   else
    some (r2, 0)

theorem qjG {n : Nat} {w : World} {A : Nat → Prop} (hA : ∀ b, A b → old w b) {b : qz} {list : (List qe)} {cs1 : List Value} (ha1 : GoT.R w A b cs1) {cs2 : List Value} (ha2 : GoT.R w A list cs2) {r : ((Option Tview) × Int)} (hF : qeq n b list = some r) : RetG Tryz.prog 66 [GoT.v qz cs1, GoT.v (List qe) cs2] w A r := by
 obtain ⟨p1, k1, p2, k2, p3, k3, p4, k4, p5, k5, rfl, s1, s2, s3, s4, s5⟩ := qat ha1
 obtain ⟨p6, k6, rfl, s6⟩ := ha2
 have hg := Rg.start hA
 refine qiP Tryz.func66 rfl (m := 21) rfl rfl (fun h => ?_)
 rw [qeq] at hF
 refine zSR (qP h rfl rfl ?_)
 intro w1 bb1 h
 refine zp2 rfl (zNSB (zSR (zl 0 0 h rfl ?_)))
 obtain ⟨r1, hr1, hF⟩ := qd hF
 refine qm r1 h call108 (ql0 (h.old (GoT.mono ha1 hg.old)) hr1) rfl rfl rfl rfl ?_
 intro w2 h
 refine zp2 rfl (qb ?_)
 refine qp rfl hF ?_ ?_ <;> intro hF
 ·refine zSR (zp2 rfl (qb ?_))
  obtain rfl := qj hF
  have hv1 : GoRs.Rs (ρ := ((Option Tview) × Int)) h.wc (reg A w h.wc) (none, 1) [GoT.v (Option Tview) [.pointer none], GoT.v Int [.int .i64 1]] := ⟨_, _, rfl, rfl, ⟨_, rfl, rfl⟩⟩
  exact qkH qc (ρ := ((Option Tview) × Int)) (r := (none, 1)) [GoT.v (Option Tview) [.pointer none], GoT.v Int [.int .i64 1]] h ⟨rfl, rfl, trivial⟩ hv1
 refine zSR (zp4 rfl (qb ?_))
 refine qp rfl hF ?_ ?_ <;> intro hF
 ·refine zSR (zp2 rfl (qb ?_))
  obtain rfl := qj hF
  have hv2 : GoRs.Rs (ρ := ((Option Tview) × Int)) h.wc (reg A w h.wc) (none, 3) [GoT.v (Option Tview) [.pointer none], GoT.v Int [.int .i64 3]] := ⟨_, _, rfl, rfl, ⟨_, rfl, rfl⟩⟩
  exact qkH qc (ρ := ((Option Tview) × Int)) (r := (none, 3)) [GoT.v (Option Tview) [.pointer none], GoT.v Int [.int .i64 3]] h ⟨rfl, rfl, trivial⟩ hv2
 refine zKE (zSR (zl 0 0 h rfl ?_))
 obtain ⟨r2, hr2, hF⟩ := qd hF
 refine qpD r2 hg h call109 (qlT (hg.regOld h) (hg.inR h ha1) hr2) rfl rfl rfl rfl ?_
 intro w3 us1 B1 hg1 hu1 hz1 hv3
 have hL1 := h.ext hu1.below
 have s7 := Up.S hg h hu1 s6
 have hb1 := h.below.trans (hu1.below.mono h.below.size)
 replace h := hz1
 obtain ⟨cs3, rfl, hr3⟩ := qly hv3
 obtain ⟨p7, rfl, s8⟩ := qhb hr3
 refine qT qc h rfl rfl rfl ?_
 intro w4 bb2 h
 refine zs 0 h rfl ?_
 intro w5 h
 refine zNSSR (zp2 rfl ?_)
 obtain ⟨r3, hr4, hF⟩ := qd hF
 refine qm r3 h call90 (qdt ⟨_, _, rfl, (h.oldS (s7.mono hg1.old))⟩ (qh8 (x := r2) 0 h rfl (h.old (GoT.mono s8 hg1.old))) hr4) rfl rfl rfl rfl ?_
 intro w6 h
 refine qb ?_
 refine qp rfl hF ?_ ?_ <;> intro hF
 ·refine zSR (zp2 rfl (qb ?_))
  obtain rfl := qj hF
  have hv4 : GoRs.Rs (ρ := ((Option Tview) × Int)) h.wc (reg A w h.wc) (none, 5) [GoT.v (Option Tview) [.pointer none], GoT.v Int [.int .i64 5]] := ⟨_, _, rfl, rfl, ⟨_, rfl, rfl⟩⟩
  exact qkH qc (ρ := ((Option Tview) × Int)) (r := (none, 5)) [GoT.v (Option Tview) [.pointer none], GoT.v Int [.int .i64 5]] (h.unbase hg1.below ⟨fun _ h => h, trivial⟩) ⟨rfl, rfl, trivial⟩ hv4
 refine zKSR (zl 0 0 h rfl (zp2 rfl (qb ?_)))
 obtain rfl := qj hF
 have hv5 : GoRs.Rs (ρ := ((Option Tview) × Int)) h.wc (reg A w h.wc) (r2, 0) [GoT.v (Option Tview) [.pointer p7], GoT.v Int [.int .i64 0]] := ⟨_, _, rfl, (hg1.outR h (hg1.inR h s8)), ⟨_, rfl, rfl⟩⟩
 exact qkH qc (ρ := ((Option Tview) × Int)) (r := (r2, 0)) [GoT.v (Option Tview) [.pointer p7], GoT.v Int [.int .i64 0]] (h.unbase hg1.below ⟨fun _ h => h, trivial⟩) ⟨rfl, rfl, trivial⟩ hv5

def qes (a_e : qe) : Nat → Int → Int → Option (Int × Int)
 | 0, _, _ => none
 | n + 1, i1, i2 =>
  bif decide (i2 < ((3 : Nat) : Int)) then
   (idx ([a_e.Through, a_e.To, a_e.From] : List (List Int)) i2).bind fun y1 =>
   bif decide ((y1.length : Int) > 0) then
    (shlS 1 i2).bind fun y2 =>
    qes a_e n (W64 (i1 + y2)) (W64 (i2 + 1))
   else
    qes a_e n i1 (W64 (i2 + 1))
  else
   some (i1, i2)

def qh1 (n : Nat) (a_e : qe) : Option Int :=
 (qes a_e n 0 0).bind fun o => match o with
 | (i1, _) =>
  some i1

theorem qmq {n : Nat} {w : World} {a_e : qe} {cs1 : List Value} (ha1 : GoT.R w (old w) a_e cs1) {r : Int} (hF : qh1 n a_e = some r) : RetV Tryz.prog 128 [GoT.v qe cs1] w r := by
 obtain ⟨p1, k1, p2, k2, p3, k3, rfl, s1, s2, s3⟩ := qI ha1
 refine qf Tryz.func128 rfl (m := 28) rfl rfl (fun h => ?_)
 rw [qh1] at hF
 refine zSR (qP h rfl rfl ?_)
 intro w1 bb1 h
 refine zp1 rfl (zNSR (zp1 rfl (zNSSR (zp1 rfl (zl 0 3 h rfl (zp1 rfl ?_))))))
 refine zl 0 4 h rfl (zp1 rfl (zl 0 2 h rfl (qlo qc [.tmp 7, .tmp 9, .tmp 11] _ ([a_e.Through, a_e.To, a_e.From] : List (List Int)) h rfl rfl rfl rfl rfl rfl rfl rfl rfl ⟨⟨_, _, rfl, s2⟩, ⟨_, _, rfl, s3⟩, ⟨_, _, rfl, s1⟩, trivial⟩ rfl ?_)))
 intro w2 p4 S1 h
 refine zp2 rfl (qb ?_)
 obtain ⟨o1, hF, hK1⟩ := qd hF
 refine qA ?_
 replace h := h.pick [0] rfl
 refine qW [(3, _), (12, _), (13, _), (14, _)] ⟨rfl, rfl, rfl, rfl, trivial⟩ ?_
 refine qG (fun m e w' => ∃ (i1 : Int) (i2 : Int), qes a_e m i1 i2 = some o1 ∧ e = [(3, .int .i64 i1), (12, .slice p4 3 3), (13, .int .i64 ((3 : Nat) : Int)), (14, .int .i64 i2)] ∧ SH w w' [Ch.rowD w S1 (([a_e.Through, a_e.To, a_e.From] : List (List Int)) : List (List Int)) p4 3]) n ⟨_, _, hF, rfl, h⟩ ?_
 rintro m1 e1 w3 ⟨i1, i2, hF, rfl, h⟩
 rcases m1 with _ | m1
 ·rw [qes] at hF
  cases hF
 rw [qes] at hF
 refine zSR (zp1 rfl (zNS ?_))
 refine qp rfl hF ?_ ?_ <;> intro hF
 ·refine zKSBSR (zp1 rfl ?_)
  obtain ⟨y1, hy1, hF⟩ := qd hF
  have he1 := qg hy1
  obtain ⟨b1, o_1, q1, cs2, hp1, hq1, -, hr1, hc2⟩ := h.atD 0 rfl hy1
  obtain ⟨p5, k4, rfl, s4⟩ := hr1
  refine zxe hp1 hq1 he1 rfl (zc 0 hc2 rfl (zp2 rfl (zNSR (zp3 rfl (qb ?_)))))
  refine qp rfl hF ?_ ?_ <;> intro hF
  ·refine qB (zp2 rfl ?_)
   obtain ⟨y2, hx1, hF⟩ := qd hF
   obtain ⟨g1, hx1⟩ := qlk hx1
   refine r_v (qqU g1 rfl rfl) rfl ?_
   rw [hx1]
   exact zp2 rfl (zNER (zp2 rfl (qb (qy m1 [(3, _), (12, _), (13, _), (14, _)] (Nat.lt_succ_self m1) ⟨rfl, rfl, rfl, rfl, trivial⟩ ⟨_, _, hF, rfl, h⟩))))
  exact zKER (zp2 rfl (qb (qy m1 [(3, _), (12, _), (13, _), (14, _)] (Nat.lt_succ_self m1) ⟨rfl, rfl, rfl, rfl, trivial⟩ ⟨_, _, hF, rfl, h⟩)))
 refine qF rfl ?_
 obtain rfl := qj hF; replace hF := hK1
 exact zSR (zp2 rfl (qb (qar qc h hF ⟨rfl, trivial⟩)))

def qaV (list : (List qe)) (kind : Int) (greatest : Bool) : Nat → Int → Int → Int → Option (Int × Int × Int)
 | 0, _, _, _ => none
 | n + 1, i1, i2, i3 =>
  bif decide (i3 < (list.length : Int)) then
   (idx list i3).bind fun y1 =>
   bif (y1.Kind != kind) then
    qaV list kind greatest n i1 i2 (W64 (i3 + 1))
   else
    (qh1 n y1).bind fun r1 =>
    bif decide (r1 > i1) then
     qaV list kind greatest n r1 y1.Value (W64 (i3 + 1))
    else
     bif (r1 == i1) then
      bif ((decide (y1.Value > i2)) == greatest) then
       qaV list kind greatest n r1 y1.Value (W64 (i3 + 1))
      else
       qaV list kind greatest n i1 i2 (W64 (i3 + 1))
     else
      qaV list kind greatest n i1 i2 (W64 (i3 + 1))
  else
   some (i1, i2, i3)

def qen (n : Nat) (list : (List qe)) (kind : Int) (greatest : Bool) : Option Int :=
 (qaV list kind greatest n (-1) (-1) 0).bind fun o => match o with
 | (_, i2, _) =>
  some i2

theorem qhy {n : Nat} {w : World} {list : (List qe)} {kind : Int} {greatest : Bool} {cs1 : List Value} (ha1 : GoT.R w (old w) list cs1) {r : Int} (hF : qen n list kind greatest = some r) : RetV Tryz.prog 89 [GoT.v (List qe) cs1, .int .i64 kind, .bool greatest] w r := by
 obtain ⟨p1, k1, rfl, s1⟩ := ha1
 refine qf Tryz.func89 rfl (m := 45) rfl rfl (fun h => ?_)
 rw [qen] at hF
 refine zSR (zp1 rfl (zNSR (zp2 rfl (zNSSR ?_))))
 refine zp3 rfl (qb ?_)
 obtain ⟨o1, hF, hK1⟩ := qd hF
 refine qA (qW [(1, _), (2, _), (7, _), (8, _), (12, _), (13, _), (14, _)] ⟨rfl, rfl, rfl, rfl, rfl, rfl, rfl, trivial⟩ ?_)
 refine qG (fun m e w' => ∃ (i1 : Int) (i2 : Int) (i3 : Int), qaV list kind greatest m i1 i2 i3 = some o1 ∧ e = [(1, .int .i64 kind), (2, .bool greatest), (7, .int .i64 i1), (8, .int .i64 i2), (12, .slice p1 list.length k1), (13, .int .i64 (list.length : Int)), (14, .int .i64 i3)] ∧ SH w w' []) n ⟨_, _, _, hF, rfl, h⟩ ?_
 rintro m1 e1 w1 ⟨i1, i2, i3, hF, rfl, h⟩
 rcases m1 with _ | m1
 ·rw [qaV] at hF
  cases hF
 rw [qaV] at hF
 refine zSR (zp1 rfl (zNS ?_))
 refine qp rfl hF ?_ ?_ <;> intro hF
 ·refine zKSBSR ?_
  obtain ⟨y1, hy1, hF⟩ := qd hF
  have he1 := qg hy1
  obtain ⟨b1, o_1, q1, cs2, hp1, hq1, -, hr1, hc2⟩ := s1.at hy1
  obtain ⟨p2, k2, p3, k3, p4, k4, rfl, s2, s3, s4⟩ := qI hr1
  refine zxe hp1 hq1 he1 rfl (zc 0 (hc2.below h.below) rfl (qT qc h rfl rfl rfl ?_))
  intro w2 bb1 h
  refine zs 0 h rfl ?_
  intro w3 h
  refine zNSSR (zp1 rfl (zl 0 0 h rfl (zp2 rfl (qb ?_))))
  refine qp rfl hF ?_ ?_ <;> intro hF
  ·refine qF rfl (qB (zp2 rfl (qb ?_)))
   replace h := h.pick [] rfl
   exact qy m1 [(1, _), (2, _), (7, _), (8, _), (12, _), (13, _), (14, _)] (Nat.lt_succ_self m1) ⟨rfl, rfl, rfl, rfl, rfl, rfl, rfl, trivial⟩ ⟨_, _, _, hF, rfl, h⟩
  refine zKSR (zl 0 0 h rfl ?_)
  obtain ⟨r1, hr2, hF⟩ := qd hF
  refine qN r1 h call128 (qmq (qaO y1 (h.oldS s2) (h.oldS s3) (h.oldS s4)) hr2) rfl rfl rfl rfl ?_
  intro w4 h
  refine zp1 rfl (zNSR (zp4 rfl ?_))
  by_cases hc4 : (decide (r1 > i1)) = true
  ·replace hF := bifT hc4 hF
   refine qC hc4 (t := 27) rfl (zn5 rfl (zn5 rfl (zn1 rfl ?_)))
   refine zp1 rfl (qb (qez rfl rfl ?_))
   refine qb3 rfl (by kernel_rfl) ?_
   refine zd2 rfl ?_
   refine zdl 0 1 h rfl ?_
   refine zd2 rfl ?_
   refine qaR (fun w5 hb => ?_)
   replace h := h.ext hb
   clear hb
   refine qfP (qB (zp2 rfl (qb ?_)))
   replace h := h.pick [] rfl
   exact qy m1 [(1, _), (2, _), (7, _), (8, _), (12, _), (13, _), (14, _)] (Nat.lt_succ_self m1) ⟨rfl, rfl, rfl, rfl, rfl, rfl, rfl, trivial⟩ ⟨_, _, _, hF, rfl, h⟩
  replace hc4 := zb hc4
  replace hF := bifF hc4 hF
  refine qD hc4 (t := 27) rfl (qa rfl (zp1 rfl (qa rfl (zp1 rfl (qa rfl (zp1 rfl (qa rfl (zp1 rfl ?_))))))))
  by_cases hc5 : (r1 == i1) = true
  ·replace hF := bifT hc5 hF
   refine qC hc5 (t := 31) rfl (qa rfl (zp1 rfl (qa rfl (zl 0 1 h rfl (qa rfl (zp1 rfl (qa rfl (zp1 rfl (qa rfl (zp1 rfl (qa rfl ?_)))))))))))
   refine zp1 rfl (qa rfl (zp2 rfl (qb ?_)))
   refine qp rfl hF ?_ ?_ <;> intro hF
   ·refine qb3 rfl (by kernel_rfl) ?_
    refine zd2 rfl ?_
    refine zdl 0 1 h rfl ?_
    refine zd2 rfl ?_
    refine qaR (fun w6 hb => ?_)
    replace h := h.ext hb
    clear hb
    refine qfP (qB (zp2 rfl (qb ?_)))
    replace h := h.pick [] rfl
    exact qy m1 [(1, _), (2, _), (7, _), (8, _), (12, _), (13, _), (14, _)] (Nat.lt_succ_self m1) ⟨rfl, rfl, rfl, rfl, rfl, rfl, rfl, trivial⟩ ⟨_, _, _, hF, rfl, h⟩
   refine zKER (zp2 rfl (qb ?_))
   replace h := h.pick [] rfl
   exact qy m1 [(1, _), (2, _), (7, _), (8, _), (12, _), (13, _), (14, _)] (Nat.lt_succ_self m1) ⟨rfl, rfl, rfl, rfl, rfl, rfl, rfl, trivial⟩ ⟨_, _, _, hF, rfl, h⟩
  replace hc5 := zb hc5
  replace hF := bifF hc5 hF
  refine qD hc5 (t := 31) rfl (zn5 rfl (zn1 rfl (qa rfl (zp2 rfl (qb (qcG rfl rfl ?_))))))
  refine zKER (zp2 rfl (qb ?_))
  replace h := h.pick [] rfl
  exact qy m1 [(1, _), (2, _), (7, _), (8, _), (12, _), (13, _), (14, _)] (Nat.lt_succ_self m1) ⟨rfl, rfl, rfl, rfl, rfl, rfl, rfl, trivial⟩ ⟨_, _, _, hF, rfl, h⟩
 refine qF rfl ?_
 obtain rfl := qj hF; replace hF := hK1
 exact zSR (zp2 rfl (qb (qar qc h hF ⟨rfl, trivial⟩)))

def qgI (_ : Nat) (a_e : qe) : Option Bool :=
 some (a_e.Kind == 1)

theorem qkz {n : Nat} {w : World} {a_e : qe} {cs1 : List Value} (ha1 : GoT.R w (old w) a_e cs1) {r : Bool} (hF : qgI n a_e = some r) : RetV Tryz.prog 91 [GoT.v qe cs1] w r := by
 obtain ⟨p1, k1, p2, k2, p3, k3, rfl, s1, s2, s3⟩ := qI ha1
 refine qf Tryz.func91 rfl (m := 6) rfl rfl (fun h => ?_)
 rw [qgI] at hF
 refine zSR (qP h rfl rfl ?_)
 intro w1 bb1 h
 exact zp1 rfl (zNSR (zp1 rfl (zl 0 0 h rfl (zp2 rfl (qb (qx qc h hF ⟨rfl, trivial⟩))))))

def qL (s : (List qe)) : Nat → Int → Option (Flow Int Int)
 | 0, _ => none
 | n + 1, i1 =>
  bif decide (i1 < (s.length : Int)) then
   (idx s i1).bind fun y1 =>
   (qgI n y1).bind fun r1 =>
   bif r1 then
    some (.ret i1)
   else
    qL s n (W64 (i1 + 1))
  else
   some (.nxt i1)

def qaI (n : Nat) (s : (List qe)) : Option Int :=
 (qL s n 0).bind fun o => match o with
 | .ret r => some r
 | .nxt _ =>
  some (-1)

theorem qet {n : Nat} {w : World} {s : (List qe)} {cs1 : List Value} (ha1 : GoT.R w (old w) s cs1) {r : Int} (hF : qaI n s = some r) : RetV Tryz.prog 129 [GoT.v (List qe) cs1, .func (.func 91) #[] #[]] w r := by
 obtain ⟨p1, k1, rfl, s1⟩ := ha1
 refine qf Tryz.func129 rfl (m := 19) rfl rfl (fun h => ?_)
 rw [qaI] at hF
 refine zSR (zp1 rfl (zNSSR (zp3 rfl (qb ?_))))
 obtain ⟨o1, hF, hK1⟩ := qd hF
 refine qA (qW [(0, _), (1, _), (7, _), (8, _)] ⟨rfl, rfl, rfl, rfl, trivial⟩ ?_)
 refine qG (fun m e w' => ∃ (i1 : Int), qL s m i1 = some o1 ∧ e = [(0, .slice p1 s.length k1), (1, .func (.func 91) #[] #[]), (7, .int .i64 (s.length : Int)), (8, .int .i64 i1)] ∧ SH w w' []) n ⟨_, hF, rfl, h⟩ ?_
 rintro m1 e1 w1 ⟨i1, hF, rfl, h⟩
 rcases m1 with _ | m1
 ·rw [qL] at hF
  cases hF
 rw [qL] at hF
 refine zSR (zp1 rfl (zNS ?_))
 refine qp rfl hF ?_ ?_ <;> intro hF
 ·refine zKSBSR (zp2 rfl (zNSR (zp2 rfl ?_)))
  refine zp1 rfl ?_
  obtain ⟨y1, hy1, hF⟩ := qd hF
  have he1 := qg hy1
  obtain ⟨b1, o_1, q1, cs2, hp1, hq1, -, hr1, hc2⟩ := s1.at hy1
  obtain ⟨p2, k2, p3, k3, p4, k4, rfl, s2, s3, s4⟩ := qI hr1
  refine zxe hp1 hq1 he1 rfl (zc 0 (hc2.below h.below) rfl ?_)
  obtain ⟨r1, hr2, hF⟩ := qd hF
  refine qm r1 h call91 (qkz (qaO y1 (h.oldS s2) (h.oldS s3) (h.oldS s4)) hr2) rfl rfl rfl rfl ?_
  intro w2 h
  refine qb ?_
  refine qp rfl hF ?_ ?_ <;> intro hF
  ·refine zSR (zp2 rfl (qb ?_))
   obtain rfl := qj hF; replace hF := hK1
   exact qar qc h hF ⟨rfl, trivial⟩
  exact zKER (zp2 rfl (qb (qy m1 [(0, _), (1, _), (7, _), (8, _)] (Nat.lt_succ_self m1) ⟨rfl, rfl, rfl, rfl, trivial⟩ ⟨_, hF, rfl, h⟩)))
 refine qF rfl ?_
 obtain rfl := qj hF; replace hF := hK1
 exact zSR (zp1 rfl (qb (qar qc h hF ⟨rfl, trivial⟩)))

def qae (n : Nat) (s : (List qe)) : Option Bool :=
 (qaI n s).bind fun r1 =>
 some (decide (r1 ≥ 0))

theorem qd3 {n : Nat} {w : World} {s : (List qe)} {cs1 : List Value} (ha1 : GoT.R w (old w) s cs1) {r : Bool} (hF : qae n s = some r) : RetV Tryz.prog 90 [GoT.v (List qe) cs1, .func (.func 91) #[] #[]] w r := by
 obtain ⟨p1, k1, rfl, s1⟩ := ha1
 refine qf Tryz.func90 rfl (m := 9) rfl rfl (fun h => ?_)
 rw [qae] at hF
 refine zSR (zp1 rfl (zNSR (zp2 rfl ?_)))
 obtain ⟨r1, hr1, hF⟩ := qd hF
 refine qN r1 h call129 (qet ⟨_, _, rfl, (h.oldS s1)⟩ hr1) rfl rfl rfl rfl ?_
 intro w1 h
 exact zp2 rfl (qb (qx qc h hF ⟨rfl, trivial⟩))

def qbK (list : (List qe)) (tag : (List Int)) (a_end : Int) : Nat → (List qe) → Int → Option ((List qe) × Int)
 | 0, _, _ => none
 | n + 1, x1, i1 =>
  bif decide (i1 < (list.length : Int)) then
   (idx list i1).bind fun y1 =>
   (idx tag i1).bind fun y2 =>
   (qc2 n y1 y2 a_end).bind fun r1 =>
   bif r1 then
    (appS x1 ([y1] : List qe)).bind fun x2 =>
    qbK list tag a_end n x2 (W64 (i1 + 1))
   else
    qbK list tag a_end n x1 (W64 (i1 + 1))
  else
   some (x1, i1)

def qgp (n : Nat) (list : (List qe)) (tag : (List Int)) (a_end : Int) : Option qU :=
 (qbK list tag a_end n ([] : List qe) 0).bind fun o => match o with
 | (x1, _) =>
  (qen n x1 3 false).bind fun r2 =>
  (qen n x1 4 true).bind fun r3 =>
  (qae n x1).bind fun r4 =>
  (qen n x1 2 false).bind fun r5 =>
  bif decide (r5 > 0) then
   bif (r2 == (-1)) then
    some (⟨r4, r5, r2, r3⟩ : qU)
   else
    some (⟨r4, 1, r2, r3⟩ : qU)
  else
   some (⟨r4, 1, r2, r3⟩ : qU)

theorem qlw {n : Nat} {w : World} {list : (List qe)} {tag : (List Int)} {a_end : Int} {cs1 : List Value} (ha1 : GoT.R w (old w) list cs1) {cs2 : List Value} (ha2 : GoT.R w (old w) tag cs2) {r : qU} (hF : qgp n list tag a_end = some r) : RetV Tryz.prog 50 [GoT.v (List qe) cs1, GoT.v (List Int) cs2, .int .i64 a_end] w r := by
 obtain ⟨p1, k1, rfl, s1⟩ := ha1
 obtain ⟨p2, k2, rfl, s2⟩ := ha2
 refine qf Tryz.func50 rfl (m := 51) rfl rfl (fun h => ?_)
 rw [qgp] at hF
 refine zSR (qT qc h rfl rfl rfl ?_)
 intro w1 bb1 h
 refine zNSR (zp1 rfl (zNSSR (zp3 rfl (qb ?_))))
 replace h := SH.nilD (α := qe) h
 obtain ⟨o1, hF, hK1⟩ := qd hF
 refine qA (qW [(1, _), (2, _), (6, _), (7, _), (12, _), (13, _), (14, _)] ⟨rfl, rfl, rfl, rfl, rfl, rfl, rfl, trivial⟩ ?_)
 refine qG (fun m e w' => ∃ (S1 : Nat → Prop) (p3 : Option Addr) (k3 : Nat) (x1 : (List qe)) (i1 : Int), qbK list tag a_end m x1 i1 = some o1 ∧ e = [(1, .slice p2 tag.length k2), (2, .int .i64 a_end), (6, .pointer (some ⟨bb1, 0, none⟩)), (7, .slice p3 x1.length k3), (12, .slice p1 list.length k1), (13, .int .i64 (list.length : Int)), (14, .int .i64 i1)] ∧ SH w w' [Ch.rowD w S1 (x1 : List qe) p3 k3, Ch.box bb1 [.bool false, .int .i64 0, .int .i64 0, .int .i64 0] 38]) n ⟨_, _, _, _, _, hF, rfl, h⟩ ?_
 rintro m1 e1 w2 ⟨S1, p3, k3, x1, i1, hF, rfl, h⟩
 rcases m1 with _ | m1
 ·rw [qbK] at hF
  cases hF
 rw [qbK] at hF
 refine zSR (zp1 rfl (zNS ?_))
 refine qp rfl hF ?_ ?_ <;> intro hF
 ·refine zKSBSR (zp1 rfl ?_)
  obtain ⟨y1, hy1, hF⟩ := qd hF
  have he1 := qg hy1
  obtain ⟨b1, o_1, q1, cs3, hp1, hq1, -, hr1, hc2⟩ := s1.at hy1
  obtain ⟨p4, k4, p5, k5, p6, k6, rfl, s3, s4, s5⟩ := qI hr1
  refine zxe hp1 hq1 he1 rfl (zc 0 (hc2.below h.below) rfl (qT qc h rfl rfl rfl ?_))
  intro w3 bb2 h
  refine zp1 rfl (zs 0 h rfl ?_)
  intro w4 h
  replace h : SH _ _ [Ch.box bb2 [.int .i64 y1.Kind, .int .i64 y1.Value, .slice p4 y1.From.length k4, .slice p5 y1.Through.length k5, .slice p6 y1.To.length k6] 87, Ch.rowD w S1 (x1 : List qe) p3 k3, Ch.box bb1 [.bool false, .int .i64 0, .int .i64 0, .int .i64 0] 38] := h
  refine zNS ?_
  refine qb3 rfl (by kernel_rfl) ?_
  refine zdl 0 0 h rfl ?_
  refine zd2 rfl ?_
  obtain ⟨y2, hy2, hF⟩ := qd hF
  have he2 := qg hy2
  obtain ⟨b2, o_2, q2, cs4, hp2, hq2, -, hr2, hc3⟩ := s2.at hy2
  obtain rfl := hr2
  refine zdxe hp2 hq2 he2 rfl ?_
  refine zdc 0 (hc3.below h.below) rfl ?_
  refine zd1 rfl ?_
  obtain ⟨r1, hr3, hF⟩ := qd hF
  refine qb7 r1 (vsB _) call88 (fun _ hb => qiL (qaO y1 ((h.ext hb).oldS s3) ((h.ext hb).oldS s4) ((h.ext hb).oldS s5)) hr3) rfl rfl rfl rfl ?_
  refine qaR (fun w5 hb => ?_)
  replace h := h.ext hb
  clear hb
  refine qp rfl hF ?_ ?_ <;> intro hF
  ·refine qB (zp1 rfl (zl 0 0 h rfl (qlo qc [.tmp 27] _ ([y1] : List qe) h rfl rfl rfl rfl rfl rfl rfl rfl rfl ⟨(qaO y1 s3 s4 s5), trivial⟩ rfl ?_)))
   intro w6 p7 S2 h
   obtain ⟨x2, hx1, hF⟩ := qd hF
   obtain ⟨g1, hx1⟩ := qbm hx1
   replace h := h.pick [0, 2, 1, 3] rfl
   refine qr9 qc h rfl rfl rfl rfl rfl rfl rfl rfl rfl rfl rfl g1 hx1 rfl ?_
   intro w7 p8 k7 S3 h
   refine zp1 rfl (zNER (zp2 rfl (qb ?_)))
   replace h := h.pick [0, 2] rfl
   exact qy m1 [(1, _), (2, _), (6, _), (7, _), (12, _), (13, _), (14, _)] (Nat.lt_succ_self m1) ⟨rfl, rfl, rfl, rfl, rfl, rfl, rfl, trivial⟩ ⟨_, _, _, _, _, hF, rfl, h⟩
  refine zKER (zp2 rfl (qb ?_))
  replace h := h.pick [1, 2] rfl
  exact qy m1 [(1, _), (2, _), (6, _), (7, _), (12, _), (13, _), (14, _)] (Nat.lt_succ_self m1) ⟨rfl, rfl, rfl, rfl, rfl, rfl, rfl, trivial⟩ ⟨_, _, _, _, _, hF, rfl, h⟩
 refine qF rfl ?_
 obtain rfl := qj hF; replace hF := hK1
 refine zSR (zp1 rfl ?_)
 obtain ⟨r2, hr4, hF⟩ := qd hF
 refine qN r2 h call89 (qhy ⟨_, _, rfl, (h.rowS 0 rfl)⟩ hr4) rfl rfl rfl rfl ?_
 intro w8 h
 refine zp1 rfl ?_
 obtain ⟨r3, hr5, hF⟩ := qd hF
 refine qN r3 h call89 (qhy ⟨_, _, rfl, (h.rowS 0 rfl)⟩ hr5) rfl rfl rfl rfl ?_
 intro w9 h
 refine r_v (qeM qc [1, 2, 3] [.const (.int .i64 (1)), .tmp 32, .tmp 34] rfl rfl rfl rfl rfl rfl rfl rfl) rfl (qT qc h rfl rfl rfl ?_)
 intro w10 bb3 h
 refine zs 0 h rfl ?_
 intro w11 h
 refine zNSR (zp1 rfl ?_)
 obtain ⟨r4, hr6, hF⟩ := qd hF
 refine qm r4 h call90 (qd3 ⟨_, _, rfl, (h.rowS 1 rfl)⟩ hr6) rfl rfl rfl rfl ?_
 intro w12 h
 refine zp1 rfl (zs 0 h rfl ?_)
 intro w13 h
 replace h : SH _ _ [Ch.box bb3 [.bool r4, .int .i64 1, .int .i64 r2, .int .i64 r3] 38, Ch.rowD w S1 (x1 : List qe) p3 k3, Ch.box bb1 [.bool false, .int .i64 0, .int .i64 0, .int .i64 0] 38] := h
 refine zNSSR (zp1 rfl ?_)
 obtain ⟨r5, hr7, hF⟩ := qd hF
 refine qN r5 h call89 (qhy ⟨_, _, rfl, (h.rowS 1 rfl)⟩ hr7) rfl rfl rfl rfl ?_
 intro w14 h
 refine zp1 rfl (zNSR (zp3 rfl ?_))
 by_cases hc5 : (decide (r5 > 0)) = true
 ·replace hF := bifT hc5 hF
  refine qC hc5 (t := 43) rfl (qa rfl (zp1 rfl (qa rfl (zl 0 2 h rfl (qa rfl (zp2 rfl (qb ?_)))))))
  refine qp rfl hF ?_ ?_ <;> intro hF
  ·refine qB (zp2 rfl (zs 0 h rfl ?_))
   intro w15 h
   refine zNSR (zl 0 0 h rfl (zs 2 h rfl ?_))
   intro w16 h
   replace h : SH _ _ [Ch.box bb3 [.bool r4, .int .i64 r5, .int .i64 r2, .int .i64 r3] 38, Ch.rowD w S1 (x1 : List qe) p3 k3, Ch.box bb1 [.bool r4, .int .i64 r5, .int .i64 r2, .int .i64 r3] 38] := h
   refine qb ?_
   obtain rfl := qj hF
   exact qad qc (ρ := qU) [GoT.v qU [.bool r4, .int .i64 r5, .int .i64 r2, .int .i64 r3]] h ⟨⟨_, _, _, rfl, rfl, h.box 2 rfl, rfl⟩, trivial⟩ (PV.done h (qai (qas (S := fun _ => False) (qdI (⟨r4, r5, r2, r3⟩ : qU)))))
  refine zKSR (zl 0 0 h rfl (zs 2 h rfl ?_))
  intro w17 h
  refine qb ?_
  obtain rfl := qj hF
  exact qad qc (ρ := qU) [GoT.v qU [.bool r4, .int .i64 1, .int .i64 r2, .int .i64 r3]] h ⟨⟨_, _, _, rfl, rfl, h.box 2 rfl, rfl⟩, trivial⟩ (PV.done h (qai (qas (S := fun _ => False) (qdI (⟨r4, 1, r2, r3⟩ : qU)))))
 replace hc5 := zb hc5
 replace hF := bifF hc5 hF
 refine qD hc5 (t := 43) rfl (zn3 rfl (zp1 rfl (qb (qcG rfl rfl (zKSR (zl 0 0 h rfl (zs 2 h rfl ?_)))))))
 intro w18 h
 replace h : SH _ _ [Ch.box bb3 [.bool r4, .int .i64 1, .int .i64 r2, .int .i64 r3] 38, Ch.rowD w S1 (x1 : List qe) p3 k3, Ch.box bb1 [.bool r4, .int .i64 1, .int .i64 r2, .int .i64 r3] 38] := h
 refine qb ?_
 obtain rfl := qj hF
 exact qad qc (ρ := qU) [GoT.v qU [.bool r4, .int .i64 1, .int .i64 r2, .int .i64 r3]] h ⟨⟨_, _, _, rfl, rfl, h.box 2 rfl, rfl⟩, trivial⟩ (PV.done h (qai (qas (S := fun _ => False) (qdI (⟨r4, 1, r2, r3⟩ : qU)))))

def qeI (_ : Nat) (a_e : qe) : Option Int :=
 (
  bif decide ((a_e.From.length : Int) > 0) then
   some (W64 (0 + 4))
  else
   some 0).bind fun i1 =>
 bif decide ((a_e.To.length : Int) > 0) then
  bif decide ((a_e.Through.length : Int) > 0) then
   some (W64 ((W64 (i1 + 2)) + 1))
  else
   some (W64 (i1 + 2))
 else
  bif decide ((a_e.Through.length : Int) > 0) then
   some (W64 (i1 + 1))
  else
   some i1

theorem qhr {n : Nat} {w : World} {a_e : qe} {cs1 : List Value} (ha1 : GoT.R w (old w) a_e cs1) {r : Int} (hF : qeI n a_e = some r) : RetV Tryz.prog 146 [GoT.v qe cs1] w r := by
 obtain ⟨p1, k1, p2, k2, p3, k3, rfl, s1, s2, s3⟩ := qI ha1
 refine qf Tryz.func146 rfl (m := 23) rfl rfl (fun h => ?_)
 rw [qeI] at hF
 refine zSR (qP h rfl rfl ?_)
 intro w1 bb1 h
 refine zp1 rfl (zNSR (zp1 rfl (zNSSR (zp1 rfl (zl 0 2 h rfl (zp1 rfl ?_))))))
 refine zp1 rfl (qb ?_)
 obtain ⟨KF1, hKF1, o1, hF, hK1⟩ := bindE hF
 refine qdR (fun e w' => ∃ (i1 : Int), KF1 i1 = some r ∧ e = [(1, .pointer (some ⟨bb1, 0, none⟩)), (3, .int .i64 i1)] ∧ SH w w' [Ch.box bb1 [.int .i64 a_e.Kind, .int .i64 a_e.Value, .slice p1 a_e.From.length k1, .slice p2 a_e.Through.length k2, .slice p3 a_e.To.length k3] 87]) ?_ ?_
 ·refine qp rfl hF ?_ ?_ <;> intro hF
  ·refine qB (zp3 rfl (qb ?_))
   obtain rfl := qj hF
   exact qu [(1, _), (3, _)] ⟨rfl, rfl, trivial⟩ ⟨_, hK1, rfl, h⟩
  refine qd1 ?_
  obtain rfl := qj hF
  exact qu [(1, _), (3, _)] ⟨rfl, rfl, trivial⟩ ⟨_, hK1, rfl, h⟩
 rintro e1 w2 ⟨i1, hF, rfl, h⟩
 subst hKF1
 refine zSSR (zp1 rfl (zl 0 4 h rfl (zp2 rfl (qb ?_))))
 refine qp rfl hF ?_ ?_ <;> intro hF
 ·refine qB (zp3 rfl (zNSSR (zp1 rfl (zl 0 3 h rfl (zp2 rfl ?_)))))
  refine qb ?_
  refine qp rfl hF ?_ ?_ <;> intro hF
  ·exact qB (zp3 rfl (zNSR (zp2 rfl (qb (qar qc h hF ⟨rfl, trivial⟩)))))
  exact zKSR (zp2 rfl (qb (qar qc h hF ⟨rfl, trivial⟩)))
 refine zKSSR (zp1 rfl (zl 0 3 h rfl (zp2 rfl (qb ?_))))
 refine qp rfl hF ?_ ?_ <;> intro hF
 ·exact qB (zp3 rfl (zNSR (zp2 rfl (qb (qar qc h hF ⟨rfl, trivial⟩)))))
 exact zKSR (zp2 rfl (qb (qar qc h hF ⟨rfl, trivial⟩)))

def qbI (a_0 : (List qe)) (a_1 : (List Bool)) (a_2 : Int) : Nat → Int → Int → Int → Option (Int × Int × Int)
 | 0, _, _, _ => none
 | n + 1, i1, i2, i3 =>
  bif decide (i3 < (a_0.length : Int)) then
   (
    (idx a_1 i3).bind fun y7 =>
    bif (!y7) then
     some true
    else
     (idx a_0 i3).bind fun y8 =>
     bif (y8.Kind != a_2) then
      some true
     else
      (idx a_0 i3).bind fun y9 =>
      (qeI n y9).bind fun r4 =>
      some (decide (r4 < i1))).bind fun b1 =>
   bif b1 then
    qbI a_0 a_1 a_2 n i1 i2 (W64 (i3 + 1))
   else
    (idx a_0 i3).bind fun y1 =>
    (
     bif (a_2 == 4) then
      (idx a_0 i3).bind fun y6 =>
      some (decide (y6.Value > i2))
     else
      some (decide (y1.Value < i2))).bind fun b3 =>
    (
     (idx a_0 i3).bind fun y5 =>
     (qeI n y5).bind fun r3 =>
     bif decide (r3 > i1) then
      some true
     else
      some b3).bind fun b4 =>
    bif b4 then
     (idx a_0 i3).bind fun y2 =>
     (idx a_0 i3).bind fun y3 =>
     (qeI n y3).bind fun r1 =>
     qbI a_0 a_1 a_2 n r1 y2.Value (W64 (i3 + 1))
    else
     (idx a_0 i3).bind fun y4 =>
     (qeI n y4).bind fun r2 =>
     qbI a_0 a_1 a_2 n r2 i2 (W64 (i3 + 1))
  else
   some (i1, i2, i3)

def qeS (n : Nat) (a_0 : (List qe)) (a_1 : (List Bool)) (a_2 : Int) : Option Int :=
 (qbI a_0 a_1 a_2 n (-1) (-1) 0).bind fun o => match o with
 | (_, i2, _) =>
  some i2

theorem qgF {n : Nat} {w : World} {a_0 : (List qe)} {a_1 : (List Bool)} {a_2 : Int} {cs1 : List Value} (ha1 : GoT.R w (old w) a_0 cs1) {cs2 : List Value} (ha2 : GoT.R w (old w) a_1 cs2) {r : Int} (hF : qeS n a_0 a_1 a_2 = some r) : RetV Tryz.prog 107 [GoT.v (List qe) cs1, GoT.v (List Bool) cs2, .int .i64 a_2] w r := by
 obtain ⟨p1, k1, rfl, s1⟩ := ha1
 obtain ⟨p2, k2, rfl, s2⟩ := ha2
 refine qf Tryz.func107 rfl (m := 77) rfl rfl (fun h => ?_)
 rw [qeS] at hF
 refine zSR (zp1 rfl (zNSR (zp1 rfl (zNSR (zp1 rfl (qb ?_))))))
 refine zSSR (zp1 rfl (qb ?_))
 obtain ⟨o1, hF, hK1⟩ := qd hF
 refine qA (qW [(0, _), (1, _), (2, _), (7, _), (8, _), (9, _)] ⟨rfl, rfl, rfl, rfl, rfl, rfl, trivial⟩ ?_)
 refine qG (fun m e w' => ∃ (i1 : Int) (i2 : Int) (i3 : Int), qbI a_0 a_1 a_2 m i1 i2 i3 = some o1 ∧ e = [(0, .slice p1 a_0.length k1), (1, .slice p2 a_1.length k2), (2, .int .i64 a_2), (7, .int .i64 i1), (8, .int .i64 i2), (9, .int .i64 i3)] ∧ SH w w' []) n ⟨_, _, _, hF, rfl, h⟩ ?_
 rintro m1 e1 w1 ⟨i1, i2, i3, hF, rfl, h⟩
 rcases m1 with _ | m1
 ·rw [qbI] at hF
  cases hF
 rw [qbI] at hF
 refine zSSR (zp4 rfl (qb ?_))
 refine qp rfl hF ?_ ?_ <;> intro hF
 ·refine zKSB (zSS ?_)
  obtain ⟨KF3, hKF3, o4, hF, hK4⟩ := bindE hF
  refine qdR (fun e w' => ∃ (b1 : Bool), KF3 b1 = some o1 ∧ e = [(0, .slice p1 a_0.length k1), (1, .slice p2 a_1.length k2), (2, .int .i64 a_2), (7, .int .i64 i1), (8, .int .i64 i2), (9, .int .i64 i3), (39, .bool b1)] ∧ SH w w' []) ?_ ?_
  ·refine qB (zp2 rfl ?_)
   obtain ⟨y7, hy7, hF⟩ := qd hF
   have he7 := qg hy7
   obtain ⟨b10, o_7, q7, cs9, hp7, hq7, -, hr10, hc12⟩ := s2.at hy7
   obtain rfl := hr10
   refine zxe hp7 hq7 he7 rfl (zc 0 (hc12.below h.below) rfl (zp2 rfl ?_))
   by_cases hc13 : (!y7) = true
   ·replace hF := bifT hc13 hF
    refine qC hc13 (t := 22) rfl (zn5 rfl (zn2 rfl (zp2 rfl (zn2 rfl ?_))))
    refine zn5 rfl (zp1 rfl (qb ?_))
    obtain rfl := qj hF
    exact qu [(0, _), (1, _), (2, _), (7, _), (8, _), (9, _), (39, _)] ⟨rfl, rfl, rfl, rfl, rfl, rfl, rfl, trivial⟩ ⟨_, hK4, rfl, h⟩
   replace hc13 := zb hc13
   replace hF := bifF hc13 hF
   refine qD hc13 (t := 22) rfl (qa rfl (zp1 rfl (qa rfl (zp1 rfl (qa rfl ?_)))))
   obtain ⟨y8, hy8, hF⟩ := qd hF
   have he8 := qg hy8
   obtain ⟨b11, o_8, q8, cs10, hp8, hq8, -, hr11, hc14⟩ := s1.at hy8
   obtain ⟨p21, k21, p22, k22, p23, k23, rfl, s21, s22, s23⟩ := qI hr11
   refine zxe hp8 hq8 he8 rfl (qa rfl (zp1 rfl (qa rfl (zc 0 (hc14.below h.below) rfl (qa rfl (zp1 rfl (qa rfl (zp3 rfl ?_))))))))
   by_cases hc15 : (y8.Kind != a_2) = true
   ·replace hF := bifT hc15 hF
    refine qC hc15 (t := 31) rfl (zn5 rfl (zn2 rfl (zp1 rfl (qb ?_))))
    obtain rfl := qj hF
    exact qu [(0, _), (1, _), (2, _), (7, _), (8, _), (9, _), (39, _)] ⟨rfl, rfl, rfl, rfl, rfl, rfl, rfl, trivial⟩ ⟨_, hK4, rfl, h⟩
   replace hc15 := zb hc15
   replace hF := bifF hc15 hF
   refine qD hc15 (t := 31) rfl (qa rfl (zp1 rfl (qa rfl (zp1 rfl (qa rfl ?_)))))
   obtain ⟨y9, hy9, hF⟩ := qd hF
   have he9 := qg hy9
   obtain ⟨b12, o_9, q9, cs11, hp9, hq9, -, hr12, hc16⟩ := s1.at hy9
   obtain ⟨p24, k24, p25, k25, p26, k26, rfl, s24, s25, s26⟩ := qI hr12
   refine zxe hp9 hq9 he9 rfl (qa rfl (zc 0 (hc16.below h.below) rfl (qa rfl ?_)))
   obtain ⟨r4, hr13, hF⟩ := qd hF
   refine qN r4 h call146 (qhr (qaO y9 (h.oldS s24) (h.oldS s25) (h.oldS s26)) hr13) rfl rfl rfl rfl ?_
   intro w7 h
   refine qa rfl (zp1 rfl (qa rfl (zp2 rfl (qb ?_))))
   obtain rfl := qj hF
   exact qu [(0, _), (1, _), (2, _), (7, _), (8, _), (9, _), (39, _)] ⟨rfl, rfl, rfl, rfl, rfl, rfl, rfl, trivial⟩ ⟨_, hK4, rfl, h⟩
  rintro e4 w8 ⟨b1, hF, rfl, h⟩
  subst hKF3
  refine qp rfl hF ?_ ?_ <;> intro hF
  ·exact qF rfl (qB (zp3 rfl (qb (qy m1 [(0, _), (1, _), (2, _), (7, _), (8, _), (9, _)] (Nat.lt_succ_self m1) ⟨rfl, rfl, rfl, rfl, rfl, rfl, trivial⟩ ⟨_, _, _, hF, rfl, h⟩))))
  refine zKSR (zp2 rfl ?_)
  obtain ⟨y1, hy1, hF⟩ := qd hF
  have he1 := qg hy1
  obtain ⟨b2, o_1, q1, cs3, hp1, hq1, -, hr1, hc3⟩ := s1.at hy1
  obtain ⟨p3, k3, p4, k4, p5, k5, rfl, s3, s4, s5⟩ := qI hr1
  refine zxe hp1 hq1 he1 rfl (zp1 rfl (zc 1 (hc3.below h.below) rfl (zp3 rfl (zNSSR (zp2 rfl ?_)))))
  refine qb ?_
  obtain ⟨KF2, hKF2, o3, hF, hK3⟩ := bindE hF
  refine qdR (fun e w' => ∃ (b3 : Bool), KF2 b3 = some o1 ∧ e = [(0, .slice p1 a_0.length k1), (1, .slice p2 a_1.length k2), (2, .int .i64 a_2), (7, .int .i64 i1), (8, .int .i64 i2), (9, .int .i64 i3), (10, .bool b3)] ∧ SH w w' []) ?_ ?_
  ·refine qp rfl hF ?_ ?_ <;> intro hF
   ·refine qB (zp2 rfl ?_)
    obtain ⟨y6, hy6, hF⟩ := qd hF
    have he6 := qg hy6
    obtain ⟨b9, o_6, q6, cs8, hp6, hq6, -, hr9, hc11⟩ := s1.at hy6
    obtain ⟨p18, k18, p19, k19, p20, k20, rfl, s18, s19, s20⟩ := qI hr9
    refine zxe hp6 hq6 he6 rfl (zp1 rfl (zc 1 (hc11.below h.below) rfl (zp3 rfl (qb ?_))))
    obtain rfl := qj hF
    exact qu [(0, _), (1, _), (2, _), (7, _), (8, _), (9, _), (10, _)] ⟨rfl, rfl, rfl, rfl, rfl, rfl, rfl, trivial⟩ ⟨_, hK3, rfl, h⟩
   refine qd1 ?_
   obtain rfl := qj hF
   exact qu [(0, _), (1, _), (2, _), (7, _), (8, _), (9, _), (10, _)] ⟨rfl, rfl, rfl, rfl, rfl, rfl, rfl, trivial⟩ ⟨_, hK3, rfl, h⟩
  rintro e3 w6 ⟨b3, hF, rfl, h⟩
  subst hKF2
  refine zSS ?_
  obtain ⟨KF1, hKF1, o2, hF, hK2⟩ := bindE hF
  refine qdR (fun e w' => ∃ (b4 : Bool), KF1 b4 = some o1 ∧ e = [(0, .slice p1 a_0.length k1), (1, .slice p2 a_1.length k2), (2, .int .i64 a_2), (8, .int .i64 i2), (9, .int .i64 i3), (65, .bool b4)] ∧ SH w w' []) ?_ ?_
  ·refine qB (zp2 rfl ?_)
   obtain ⟨y5, hy5, hF⟩ := qd hF
   have he5 := qg hy5
   obtain ⟨b8, o_5, q5, cs7, hp5, hq5, -, hr7, hc8⟩ := s1.at hy5
   obtain ⟨p15, k15, p16, k16, p17, k17, rfl, s15, s16, s17⟩ := qI hr7
   refine zxe hp5 hq5 he5 rfl (zc 0 (hc8.below h.below) rfl ?_)
   obtain ⟨r3, hr8, hF⟩ := qd hF
   refine qN r3 h call146 (qhr (qaO y5 (h.oldS s15) (h.oldS s16) (h.oldS s17)) hr8) rfl rfl rfl rfl ?_
   intro w4 h
   refine zp3 rfl ?_
   by_cases hc9 : (decide (r3 > i1)) = true
   ·replace hF := bifT hc9 hF
    refine qC hc9 (t := 63) rfl (zn1 rfl (zp1 rfl (qb ?_)))
    obtain rfl := qj hF
    exact qu [(0, _), (1, _), (2, _), (8, _), (9, _), (65, _)] ⟨rfl, rfl, rfl, rfl, rfl, rfl, trivial⟩ ⟨_, hK2, rfl, h⟩
   replace hc9 := zb hc9
   replace hF := bifF hc9 hF
   refine qD hc9 (t := 63) rfl (qa rfl (zp2 rfl (qb ?_)))
   obtain rfl := qj hF
   exact qu [(0, _), (1, _), (2, _), (8, _), (9, _), (65, _)] ⟨rfl, rfl, rfl, rfl, rfl, rfl, trivial⟩ ⟨_, hK2, rfl, h⟩
  rintro e2 w5 ⟨b4, hF, rfl, h⟩
  subst hKF1
  refine qp rfl hF ?_ ?_ <;> intro hF
  ·refine qB (zp2 rfl ?_)
   obtain ⟨y2, hy2, hF⟩ := qd hF
   have he2 := qg hy2
   obtain ⟨b5, o_2, q2, cs4, hp2, hq2, -, hr2, hc5⟩ := s1.at hy2
   obtain ⟨p6, k6, p7, k7, p8, k8, rfl, s6, s7, s8⟩ := qI hr2
   refine zxe hp2 hq2 he2 rfl (zp1 rfl (zc 1 (hc5.below h.below) rfl (zp1 rfl (qb (qB (zp2 rfl ?_))))))
   obtain ⟨y3, hy3, hF⟩ := qd hF
   have he3 := qg hy3
   obtain ⟨b6, o_3, q3, cs5, hp3, hq3, -, hr3, hc6⟩ := s1.at hy3
   obtain ⟨p9, k9, p10, k10, p11, k11, rfl, s9, s10, s11⟩ := qI hr3
   refine zxe hp3 hq3 he3 rfl (zc 0 (hc6.below h.below) rfl ?_)
   obtain ⟨r1, hr4, hF⟩ := qd hF
   refine qN r1 h call146 (qhr (qaO y3 (h.oldS s9) (h.oldS s10) (h.oldS s11)) hr4) rfl rfl rfl rfl ?_
   intro w2 h
   exact zp1 rfl (zNER (zp3 rfl (qb (qy m1 [(0, _), (1, _), (2, _), (7, _), (8, _), (9, _)] (Nat.lt_succ_self m1) ⟨rfl, rfl, rfl, rfl, rfl, rfl, trivial⟩ ⟨_, _, _, hF, rfl, h⟩))))
  refine qd1 (qB (zp2 rfl ?_))
  obtain ⟨y4, hy4, hF⟩ := qd hF
  have he4 := qg hy4
  obtain ⟨b7, o_4, q4, cs6, hp4, hq4, -, hr5, hc7⟩ := s1.at hy4
  obtain ⟨p12, k12, p13, k13, p14, k14, rfl, s12, s13, s14⟩ := qI hr5
  refine zxe hp4 hq4 he4 rfl (zc 0 (hc7.below h.below) rfl ?_)
  obtain ⟨r2, hr6, hF⟩ := qd hF
  refine qN r2 h call146 (qhr (qaO y4 (h.oldS s12) (h.oldS s13) (h.oldS s14)) hr6) rfl rfl rfl rfl ?_
  intro w3 h
  exact zp1 rfl (zNER (zp3 rfl (qb (qy m1 [(0, _), (1, _), (2, _), (7, _), (8, _), (9, _)] (Nat.lt_succ_self m1) ⟨rfl, rfl, rfl, rfl, rfl, rfl, trivial⟩ ⟨_, _, _, hF, rfl, h⟩))))
 refine qF rfl ?_
 obtain rfl := qj hF; replace hF := hK1
 exact zSR (zp2 rfl (qb (qar qc h hF ⟨rfl, trivial⟩)))

def qf8 (n : Nat) (list : (List qe)) (matching : (List Bool)) : Option qU :=
 (qeS n list matching 3).bind fun r1 =>
 (qeS n list matching 4).bind fun r2 =>
 (qeS n list matching 1).bind fun r3 =>
 (qeS n list matching 2).bind fun r4 =>
 bif (r1 == (-1)) then
  bif decide (r4 > 0) then
   some (⟨(r3 == 0), r4, r1, r2⟩ : qU)
  else
   some (⟨(r3 == 0), 1, r1, r2⟩ : qU)
 else
  some (⟨(r3 == 0), 1, r1, r2⟩ : qU)

theorem qkQ {n : Nat} {w : World} {list : (List qe)} {matching : (List Bool)} {cs1 : List Value} (ha1 : GoT.R w (old w) list cs1) {cs2 : List Value} (ha2 : GoT.R w (old w) matching cs2) {r : qU} (hF : qf8 n list matching = some r) : RetV Tryz.prog 65 [GoT.v (List qe) cs1, GoT.v (List Bool) cs2] w r := by
 obtain ⟨p1, k1, rfl, s1⟩ := ha1
 obtain ⟨p2, k2, rfl, s2⟩ := ha2
 refine qf Tryz.func65 rfl (m := 32) rfl rfl (fun h => ?_)
 rw [qf8] at hF
 refine zSR (qT qc h rfl rfl rfl ?_)
 intro w1 bb1 h
 refine zNSR (zp2 rfl ?_)
 obtain ⟨r1, hr1, hF⟩ := qd hF
 refine qN r1 h call107 (qgF ⟨_, _, rfl, (h.oldS s1)⟩ ⟨_, _, rfl, (h.oldS s2)⟩ hr1) rfl rfl rfl rfl ?_
 intro w2 h
 refine zp2 rfl ?_
 obtain ⟨r2, hr2, hF⟩ := qd hF
 refine qN r2 h call107 (qgF ⟨_, _, rfl, (h.oldS s1)⟩ ⟨_, _, rfl, (h.oldS s2)⟩ hr2) rfl rfl rfl rfl ?_
 intro w3 h
 refine r_v (qeM qc [1, 2, 3] [.const (.int .i64 (1)), .tmp 9, .tmp 12] rfl rfl rfl rfl rfl rfl rfl rfl) rfl (qT qc h rfl rfl rfl ?_)
 intro w4 bb2 h
 refine zs 0 h rfl ?_
 intro w5 h
 refine zNSR (zp2 rfl ?_)
 obtain ⟨r3, hr3, hF⟩ := qd hF
 refine qN r3 h call107 (qgF ⟨_, _, rfl, (h.oldS s1)⟩ ⟨_, _, rfl, (h.oldS s2)⟩ hr3) rfl rfl rfl rfl ?_
 intro w6 h
 refine zp2 rfl (zs 0 h rfl ?_)
 intro w7 h
 replace h : SH _ _ [Ch.box bb2 [.bool (r3 == 0), .int .i64 1, .int .i64 r1, .int .i64 r2] 38, Ch.box bb1 [.bool false, .int .i64 0, .int .i64 0, .int .i64 0] 38] := h
 refine zNSR (zp2 rfl ?_)
 obtain ⟨r4, hr4, hF⟩ := qd hF
 refine qN r4 h call107 (qgF ⟨_, _, rfl, (h.oldS s1)⟩ ⟨_, _, rfl, (h.oldS s2)⟩ hr4) rfl rfl rfl rfl ?_
 intro w8 h
 refine zp1 rfl (zNSSR (zp1 rfl (zl 0 2 h rfl (zp2 rfl ?_))))
 by_cases hc1 : (r1 == (-1)) = true
 ·replace hF := bifT hc1 hF
  refine qC hc1 (t := 25) rfl (qa rfl (zp1 rfl (qa rfl (zp2 rfl (qb ?_)))))
  refine qp rfl hF ?_ ?_ <;> intro hF
  ·refine qB (zp2 rfl (zs 0 h rfl ?_))
   intro w9 h
   refine zNSR (zl 0 0 h rfl (zs 1 h rfl ?_))
   intro w10 h
   replace h : SH _ _ [Ch.box bb2 [.bool (r3 == 0), .int .i64 r4, .int .i64 r1, .int .i64 r2] 38, Ch.box bb1 [.bool (r3 == 0), .int .i64 r4, .int .i64 r1, .int .i64 r2] 38] := h
   refine qb ?_
   obtain rfl := qj hF
   exact qad qc (ρ := qU) [GoT.v qU [.bool (r3 == 0), .int .i64 r4, .int .i64 r1, .int .i64 r2]] h ⟨⟨_, _, _, rfl, rfl, h.box 1 rfl, rfl⟩, trivial⟩ (PV.done h (qai (qas (S := fun _ => False) (qdI (⟨(r3 == 0), r4, r1, r2⟩ : qU)))))
  refine zKSR (zl 0 0 h rfl (zs 1 h rfl ?_))
  intro w11 h
  refine qb ?_
  obtain rfl := qj hF
  exact qad qc (ρ := qU) [GoT.v qU [.bool (r3 == 0), .int .i64 1, .int .i64 r1, .int .i64 r2]] h ⟨⟨_, _, _, rfl, rfl, h.box 1 rfl, rfl⟩, trivial⟩ (PV.done h (qai (qas (S := fun _ => False) (qdI (⟨(r3 == 0), 1, r1, r2⟩ : qU)))))
 replace hc1 := zb hc1
 replace hF := bifF hc1 hF
 refine qD hc1 (t := 25) rfl (zn2 rfl (zp1 rfl (qb (qcG rfl rfl (zKSR (zl 0 0 h rfl (zs 1 h rfl ?_)))))))
 intro w12 h
 replace h : SH _ _ [Ch.box bb2 [.bool (r3 == 0), .int .i64 1, .int .i64 r1, .int .i64 r2] 38, Ch.box bb1 [.bool (r3 == 0), .int .i64 1, .int .i64 r1, .int .i64 r2] 38] := h
 refine qb ?_
 obtain rfl := qj hF
 exact qad qc (ρ := qU) [GoT.v qU [.bool (r3 == 0), .int .i64 1, .int .i64 r1, .int .i64 r2]] h ⟨⟨_, _, _, rfl, rfl, h.box 1 rfl, rfl⟩, trivial⟩ (PV.done h (qai (qas (S := fun _ => False) (qdI (⟨(r3 == 0), 1, r1, r2⟩ : qU)))))

end Go.Fw


namespace Go.Fw
open Go

def qe0 (x : qe) : Prop := rngI x.Kind ∧ rngI x.Value ∧ (rngL rngI) x.From ∧ (rngL rngI) x.Through ∧ (rngL rngI) x.To
def qb6 (x : qe) : Nat := qcx x.From + qcx x.Through + qcx x.To
structure qb0 (x : qe) : Prop where
  Kind : okI x.Kind
  Value : okI x.Value
  From : (okL okI) x.From
  Through : (okL okI) x.Through
  To : (okL okI) x.To
theorem qmN {x : qe} (h : qe0 x) (w : qb6 x ≤ 1048576) : qb0 x := ⟨h.1, h.2.1, qcL (h.2.2.1) (by simp only [qb6] at w; omega), qcL (h.2.2.2.1) (by simp only [qb6] at w; omega), qcL (h.2.2.2.2) (by simp only [qb6] at w; omega)⟩
theorem qnW {a : qe} (h : qb6 a ≤ 1048576) : Ev (fun n => qef n a a) true := by
  unfold qef
  simp only [qb6] at h
  exact Ev.ff qbD (Ev.ff qbD (Ev.bind (qee (a := a.From) (by omega)) (Ev.ff rfl (Ev.bind (qee (a := a.Through) (by omega)) (Ev.ff rfl (Ev.bind (qee (a := a.To) (by omega)) (Ev.ff rfl (.done))))))))

def qc8 (a : (List qe)) : Nat := a.length + (a.map fun x => qb6 x).sum
theorem ql3 {a : (List qe)} (h : (rngL qe0) a) (w : qc8 a ≤ 1048576) : (okL qb0) a :=
  ⟨by simp only [qc8] at w; omega, fun x hx => qmN (h.2 x hx) (by have := qdV (wt := fun x : qe => qb6 x) hx; simp only [qc8] at w; omega)⟩
theorem qmT {a : (List qe)} (h : qc8 a ≤ 1048576) : Ev (fun n => qeU n a a) true := by
  have hl : a.length ≤ 1048576 := by simp only [qc8] at h; omega
  unfold qeU
  exact Ev.ff (by simp) (Ev.bind (b := .nxt (a.length : Int)) (qhS (eqf := qef) (fun x hx => qnW (by have := qdV (wt := fun x : qe => qb6 x) hx; simp only [qc8] at h; omega))
    (fun n => by simp only [qb9, qv (Nat.le_refl _), cond_false])
    (fun n j x hx => by
      have hj := (List.getElem?_eq_some_iff.1 hx).1
      simp only [qb9, qt hj, cond_true, qaJ hx, Option.bind_some, qq (show j < 9223372036854775807 by omega)])) .done)

theorem qnY {a : qe} {left : Int} (h : qe0 a) (h0 : 0 ≤ left) (h1 : left ≤ 1048576) : Sz (fun n => qea n a left) (fun r => r = left - (qb6 a : Int)) := by
  unfold qea
  obtain ⟨h_0, h_1, h_2, h_3, h_4⟩ := h
  exact Sz.step (qeF (a := a.From) h_2 (by omega) (by omega)) fun r0 p0 q0 => Sz.step (qeF (a := a.Through) h_3 (by omega) (by omega)) fun r1 p1 q1 => Sz.step (qeF (a := a.To) h_4 (by omega) (by omega)) fun r2 p2 q2 => Sz.done p2 (by simp only [qb6]; omega)

theorem qm5 {a : (List qe)} {left : Int} (h : (rngL qe0) a) (h0 : 0 ≤ left) (h1 : left ≤ 1048576) : Sz (fun n => qfS n a left) (fun r => r = left - (qc8 a : Int)) :=
  Sz.list (Lf := qbH a) (wt := fun x : qe => qb6 x) (el := qea) h0 h1 h.1 (fun x hx left p q => qnY (h.2 x hx) p q)
    (fun acc n => by simp only [qbH, qv (Nat.le_refl _), cond_false])
    (fun acc n j x hx => by
      have hj := (List.getElem?_eq_some_iff.1 hx).1
      have hl := h.1
      simp only [qbH, qt hj, cond_true, qaJ hx, Option.bind_some, qq (show j < 9223372036854775807 by omega)])
    (fun _ => rfl)

theorem qnZ {a : qe} (h : qb6 a ≤ 1048576) : Ev (fun n => qec n a) a := by
  unfold qec
  simp only [qb6] at h
  exact Ev.bind (qdr (a := a.From) (by omega)) (Ev.bind (qdr (a := a.Through) (by omega)) (Ev.bind (qdr (a := a.To) (by omega)) (.done)))

theorem qiX {a : (List qe)} (h : qc8 a ≤ 1048576) : Ev (fun n => qcW n a) a := by
  have hl : a.length ≤ 1048576 := by simp only [qc8] at h; omega
  unfold qcW
  exact Ev.bindN (qg4 (by omega)) (Ev.bind (b := (a, (a.length : Int))) (qhQ (cp := qec) (fun x hx => qnZ (by have := qdV (wt := fun x : qe => qb6 x) hx; simp only [qc8] at h; omega))
    (fun acc n => by simp only [qb8, qv (Nat.le_refl _), cond_false])
    (fun acc n j x y hx hy => by
      have hj := (List.getElem?_eq_some_iff.1 hx).1
      simp only [qb8, qt hj, cond_true, qaJ hx, qaJ hy, Option.bind_some, qq (show j < 9223372036854775807 by omega)])) .done)

end Go.Fw


namespace Go.Fw
open Go
set_option maxRecDepth 100000

theorem qnO {b : qz} (h : blockB b = true) : Ev (fun n => qd7 n b) ((places b.Design).length : Int) := by
  unfold qd7
  exact Ev.bind (qhC (qa5 (qbT h))) (Ev.now (by rw [List.length_map]))

def plsB (b : qz) (xs : List Int) : Bool := decide (xs.length ≤ 4) && allN (fun j => inPl b (at0 xs j)) xs.length
def valB (k v : Int) : Bool := bif k == 1 then v == 0 else bif k == 2 then inI v 1 10 else bif (k == 3) || (k == 4) then inI v 0 1000000000 else false
def excB (b : qz) (e : qe) : Bool := (plsB b e.From && (plsB b e.Through && plsB b e.To)) && (valB e.Kind e.Value && (incB e.From && incB e.To))

theorem qjx {b : qz} {xs : List Int} {sorted : Bool} (h : blockB b = true) (hl : xs.length ≤ 1048576) : Ev (fun n => qeo n b xs sorted) (plsB b xs && (!sorted || incB xs)) := by
  have hpl := qcq (qa5 (qbT h))
  have hL : Ev (fun n => qbC b xs sorted n 0) (bif allN (fun j => inPl b (at0 xs j) && (!sorted || stepB xs j)) xs.length then .nxt (xs.length : Int) else .ret false) := by
    refine qe1 ?_ (fun j hj X hX => Ev.succ ?_)
    · exact Ev.succ (by simp only [qbC, qv (Nat.le_refl _), cond_false]; exact .done)
    · simp only [qbC, qt hj, cond_true, qbp hj, Option.bind_some, qer, qq (show j < 9223372036854775807 by omega)]
      refine Ev.bind (qnO h) ?_
      rw [qbX (show (places b.Design).length ≤ 9223372036854775807 by omega)]
      simp only [qbA]
      refine Ev.okP (a := inPl b (at0 xs j)) fun _ => ?_
      cases sorted
      · exact hX
      · refine Ev.tt rfl ?_
        unfold stepB
        by_cases h0 : j = 0
        · subst h0
          exact Ev.ff (by decide) hX
        · refine Ev.tt (by simp; omega) ?_
          simp only [show (j : Int) - 1 = ((j - 1 : Nat) : Int) by omega, qfi (show -9223372036854775808 ≤ ((j - 1 : Nat) : Int) by omega) (by omega), qbp (show j - 1 < xs.length by omega), Option.bind_some]
          rw [show decide (at0 xs (j - 1) ≥ at0 xs j) = !decide (at0 xs (j - 1) < at0 xs j) by rw [Bool.eq_iff_iff]; simp, show decide (j = 0) = false by simp; omega]
          simp only [qbA, Bool.not_true, Bool.false_or]
          exact Ev.okP1 fun _ => hX
  unfold qeo
  have e : (plsB b xs && (!sorted || incB xs)) = (allN (fun j => inPl b (at0 xs j) && (!sorted || stepB xs j)) xs.length && decide (xs.length ≤ 4)) := by
    unfold plsB incB
    rw [qit]
    cases sorted
    · simp only [Bool.not_false, Bool.true_or, Bool.and_true]
      rw [show allN (fun _ => true) xs.length = true from qa1.2 (fun _ _ => rfl), Bool.and_true, Bool.and_comm]
    · simp only [Bool.not_true, Bool.false_or]
      rw [Bool.and_assoc, Bool.and_comm]
  rw [e]
  refine Ev.bind hL ?_
  cases allN (fun j => inPl b (at0 xs j) && (!sorted || stepB xs j)) xs.length
  · exact .done
  · refine Ev.now ?_
    show some (decide ((xs.length : Int) ≤ ((4 : Nat) : Int))) = some (true && decide (xs.length ≤ 4))
    rw [qjm, Bool.true_and]

theorem qpt {n : Nat} {k v : Int} : qg6 n k v = some (valB k v) := by
  simp only [qg6, qed, Option.bind_some]
  unfold valB
  cases (k == 1) <;> cases (k == 2) <;> cases (k == 3) <;> cases (k == 4) <;> rfl

theorem qmv {b : qz} {V : Tview} {e : qe} (h : blockB b = true) (hP : V.places = places b.Design) (he : qb0 e) : Ev (fun n => qdm n (some V) e) (excB b e) := by
  have hpl := qcq (qa5 (qbT h))
  have one : ∀ xs : List Int, xs.length ≤ 1048576 → ∀ {F : Nat → Option (Flow Bool Int)} {X : Flow Bool Int}, Ev F X →
      Ev (fun n => bif decide ((xs.length : Int) > 4) then some (.ret false) else (qby n xs 0 (((places b.Design).length : Int) - 1)).bind fun r2 => bif (!r2) then some (.ret false) else F n) (bif plsB b xs then X else .ret false) := by
    intro xs hx F X hX
    unfold plsB
    rw [show decide ((xs.length : Int) > 4) = !decide (xs.length ≤ 4) from qjr (k := 4)]
    simp only [qbA]
    refine Ev.okP fun _ => Ev.ok1 ((qeL hx).cast (by rw [qgu (d := 0)]; rfl)) fun _ => hX
  have hL : Ev (fun n => qag (some V) e n 0) (bif plsB b e.From then (bif plsB b e.Through then (bif plsB b e.To then .nxt 3 else .ret false) else .ret false) else .ret false) := by
    refine Ev.succ ?_
    simp only [qag, Option.bind_some, qbq, hP, qbX (show (places b.Design).length ≤ 9223372036854775807 by omega)]
    refine one e.From he.From.len (F := fun n => qag (some V) e n 1) (Ev.succ ?_)
    simp only [qag, Option.bind_some, qbq, hP, qbX (show (places b.Design).length ≤ 9223372036854775807 by omega)]
    refine one e.Through he.Through.len (F := fun n => qag (some V) e n 2) (Ev.succ ?_)
    simp only [qag, Option.bind_some, qbq, hP, qbX (show (places b.Design).length ≤ 9223372036854775807 by omega)]
    refine one e.To he.To.len (F := fun n => qag (some V) e n 3) (Ev.succ ?_)
    exact .done
  unfold qdm excB
  refine Ev.bind hL ?_
  cases plsB b e.From
  · exact .done
  · cases plsB b e.Through
    · exact .done
    · cases plsB b e.To
      · exact .done
      · simp only [cond_true, qpt, Option.bind_some, Bool.and_self, Bool.true_and]
        exact Ev.andP fun _ => Ev.and (qid he.From.len) fun _ => Ev.last (qid he.To.len)

theorem qlS {b : qz} {e : qe} (hok : qfG b) (he : qb0 e) : Ev (fun n => qe8 n b e) (blockB b && excB b e) := by
  have eq : (blockB b && excB b e) = ((blockB b && ((plsB b e.From && (!true || incB e.From)) && ((plsB b e.Through && (!false || incB e.Through)) && (plsB b e.To && (!true || incB e.To))))) && valB e.Kind e.Value) := by
    unfold excB
    generalize blockB b = a1
    generalize plsB b e.From = a2
    generalize plsB b e.Through = a3
    generalize plsB b e.To = a4
    generalize valB e.Kind e.Value = a5
    generalize incB e.From = a6
    generalize incB e.To = a7
    cases a1 <;> cases a2 <;> cases a3 <;> cases a4 <;> cases a5 <;> cases a6 <;> cases a7 <;> rfl
  rw [eq]
  unfold qe8
  refine Ev.guardB (Ev.or (qjQ hok) fun h => Ev.or (qjx h he.From.len) fun _ => Ev.or (qjx h he.Through.len) fun _ => Ev.neg (qjx h he.To.len)) fun _ => ?_
  simp only [qer, Option.bind_some]
  unfold valB
  cases (e.Kind == 1) <;> cases (e.Kind == 2) <;> cases (e.Kind == 3) <;> cases (e.Kind == 4) <;> exact .done

end Go.Fw


namespace Go.Fw
open Go
set_option maxRecDepth 100000

/-! ### Data paths -/

def hasI (xs : List Int) (y : Int) : Bool := xs.any fun x => x == y
theorem qlm {xs : List Int} {y : Int} (hl : xs.length ≤ 1048576) : Ev (fun n => qeQ n xs y) (ixL (fun x => x == y) xs) :=
  qei (fin := (xs.length : Int)) (Lf := qdM xs y) (pf := fun _ x => some (x == y)) (fun _ _ => .done)
    (fun n => by simp only [qdM, qv (Nat.le_refl _), cond_false])
    (fun n j x hx => by
      have hj := (List.getElem?_eq_some_iff.1 hx).1
      simp only [qdM, qt hj, cond_true, qaJ hx, Option.bind_some, qq (show j < 9223372036854775807 by omega)])
    (fun n => by unfold qeQ; congr 1; funext o; cases o <;> rfl)
theorem qjX {xs : List Int} {y : Int} (hl : xs.length ≤ 1048576) : Ev (fun n => qbS n xs y) (hasI xs y) := by
  unfold qbS
  refine Ev.bind (b := ixL (fun x => y == x) xs) (qei (fin := (xs.length : Int)) (Lf := qbv xs y) (pf := fun _ x => some (y == x)) (fun _ _ => .done)
    (fun n => by simp only [qbv, qv (Nat.le_refl _), cond_false])
    (fun n j x hx => by
      have hj := (List.getElem?_eq_some_iff.1 hx).1
      simp only [qbv, qt hj, cond_true, qaJ hx, Option.bind_some, qq (show j < 9223372036854775807 by omega)])
    (fun n => by unfold qfo; congr 1; funext o; cases o <;> rfl)) (Ev.now ?_)
  rw [qia]
  unfold hasI
  congr 2
  funext x
  rw [Bool.eq_iff_iff, beq_iff_eq, beq_iff_eq]
  exact eq_comm
theorem qpq {p : Int → Bool} {xs : List Int} : decide (ixL p xs < 0) = !xs.any p := by
  rw [← qia, Bool.eq_iff_iff]; simp

def stepP (b : qz) (path : List Int) (j : Nat) : Bool := decide (j = 0) || hasI (succL b (at0 path (j - 1)).toNat) (at0 path j)
def dpathB (b : qz) (path : List Int) : Bool := lenB path 1 60 && (allN (fun j => inPl b (at0 path j)) path.length && allN (stepP b path) path.length)

theorem qmU {b : qz} {V : Tview} {path : List Int} (h : blockB b = true) (hV : V.Block = b) (hP : V.places = places b.Design) (hl : path.length ≤ 1048576) : Ev (fun n => qdN n (some V) path) (dpathB b path) := by
  have hs := qa5 (qbT h)
  have hpl := qcq hs
  unfold qdN dpathB
  simp only [qan, qbq, qed, Option.bind_some, hP, qbX (show (places b.Design).length ≤ 9223372036854775807 by omega), qbA]
  rw [← Bool.and_assoc, show inI (path.length : Int) 1 60 = lenB path 1 60 from ql7 (lo := 1) (hi := 60)]
  refine Ev.guardB (Ev.orBP fun _ => Ev.neg ((qeL hl).cast (by rw [qgu (d := 0)]; rfl))) fun hb => ?_
  rw [Bool.and_eq_true, qa1] at hb
  obtain ⟨hlen, hin⟩ := hb
  have hlen' : 1 ≤ path.length := by unfold lenB at hlen; simp only [Bool.and_eq_true, decide_eq_true_eq] at hlen; exact hlen.1
  have hL := qnL (Lf := qbi (some V) path) (len := path.length) (i0 := 1) (f := stepP b path) (bad := false) (fin := .nxt (path.length : Int)) hlen'
    (Ev.succ (by simp only [qbi, qv (Nat.le_refl _), cond_false]; exact .done))
    (fun j h1 hj X hX => Ev.succ (by
      have hp : inPl b (at0 path (j - 1)) = true := hin (j - 1) (by omega)
      unfold inPl at hp
      rw [qc5] at hp
      have ep := qkF hp.1
      simp only [qbi, qt hj, cond_true, show (j : Int) - 1 = ((j - 1 : Nat) : Int) by omega, qfi (show -9223372036854775808 ≤ ((j - 1 : Nat) : Int) by omega) (by omega), qq (show j < 9223372036854775807 by omega), qbp (show j - 1 < path.length by omega), qbp hj, Option.bind_some]
      unfold stepP
      rw [show decide (j = 0) = false by simp; omega, Bool.false_or]
      refine Ev.bind (b := succL b (at0 path (j - 1)).toNat) ?_ ?_
      · have := qmY h hV hP (j := (at0 path (j - 1)).toNat) (by omega)
        rw [← ep] at this
        exact this
      · exact Ev.chk1 (qjX (by have := qnd h (j := (at0 path (j - 1)).toNat); omega)) fun _ => hX))
  have e : allN (fun j => stepP b path (1 + j)) (path.length - 1) = allN (stepP b path) path.length := by
    rw [Bool.eq_iff_iff, qa1, qa1]
    constructor
    · intro h j hj
      cases j with
      | zero => rfl
      | succ j => have := h j (by omega); rwa [Nat.add_comm] at this
    · intro h j hj
      exact h (1 + j) (by omega)
  rw [e] at hL
  refine Ev.bind hL ?_
  cases allN (stepP b path) path.length <;> exact .done

theorem qmj {b : qz} {path : List Int} (hok : qfG b) (hl : path.length ≤ 1048576) : Ev (fun n => qfy n b path) (blockB b && dpathB b path) := by
  unfold qfy dpathB
  rw [← Bool.and_assoc, ← qit]
  refine Ev.guardB ?_ fun hb => ?_
  · unfold lenB
    rw [show decide ((path.length : Int) < 1) = !decide (1 ≤ path.length) from qpF (k := 1), show decide ((path.length : Int) > 60) = !decide (path.length ≤ 60) from qjr (k := 60)]
    refine Ev.or (qjQ hok) fun _ => ?_
    simp only [qbA]
    exact Ev.orBP fun _ => .done
  · rw [Bool.and_eq_true] at hb
    have h := hb.1
    have hs := qa5 (qbT h)
    have hpl := qcq hs
    have hL : Ev (fun n => qbu b path n 0) (bif allN (fun j => inPl b (at0 path j) && stepP b path j) path.length then .nxt (path.length : Int) else .ret false) := by
      refine loopN (τ := Unit) (Lf := fun n _ j => qbu b path n j) (S := fun _ => ()) (fun j => inPl b (at0 path j) && stepP b path j) (fun n => ?_) (fun j hj hp X hX => ?_)
      · simp only [qbu, qv (Nat.le_refl _), cond_false]
      · simp only [qbu, qt hj, cond_true, qbp hj, Option.bind_some, qer, qq (show j < 9223372036854775807 by omega)]
        have e1 : Ev (fun n => qd7 n b) ((places b.Design).length : Int) := by
          unfold qd7
          exact Ev.bind (qhC hs) (Ev.now (by rw [List.length_map]))
        refine Ev.bind e1 ?_
        rw [qbX (show (places b.Design).length ≤ 9223372036854775807 by omega)]
        simp only [qbA]
        refine Ev.okP fun hin => ?_
        have hX := fun hst => hX (by rw [Bool.and_eq_true]; exact ⟨hin, hst⟩)
        unfold stepP at hX ⊢
        by_cases h0 : j = 0
        · subst h0
          refine Ev.ff (by decide) ?_
          exact hX rfl
        · have hq := hp (j - 1) (by omega)
          rw [Bool.and_eq_true] at hq
          have hq := hq.1
          unfold inPl at hq
          rw [qc5] at hq
          have ep := qkF hq.1
          rw [show decide (j = 0) = false by simp; omega, Bool.false_or] at hX ⊢
          refine Ev.tt (by simp; omega) ?_
          rw [qbX (show j ≤ 9223372036854775807 by omega), show (j : Int) - 1 = ((j - 1 : Nat) : Int) by omega, qbp (show j - 1 < path.length by omega)]
          simp only [Option.bind_some]
          refine Ev.bind (b := succL b (at0 path (j - 1)).toNat) ?_ (Ev.bind (qlm (by have := qnd h (j := (at0 path (j - 1)).toNat); omega)) ?_)
          · have := qob hok h (j := (at0 path (j - 1)).toNat) (by omega)
            rw [← ep] at this
            exact this
          · rw [qpq]
            simp only [qbA]
            exact Ev.okP1 hX
    refine Ev.bind hL ?_
    cases allN (fun j => inPl b (at0 path j) && stepP b path j) path.length <;> exact .done


/-! ### Tags -/

instance : Inhabited qe := ⟨⟨0, 0, [], [], []⟩⟩
def stepT (e : qe) (found place : Int) : Int := bif decide (found ≥ 0) && (decide (found < (e.Through.length : Int)) && (at0 e.Through found.toNat == place)) then found + 1 else found
def fromB (e : qe) (p : Int) : Bool := decide (e.From.length = 0) || hasI e.From p
def toB (e : qe) (p : Int) : Bool := decide (e.To.length = 0) || hasI e.To p
def beginT (e : qe) (p : Int) : Int := bif fromB e p then stepT e 0 p else -1
def runT (e : qe) (path : List Int) : Int := (path.drop 1).foldl (stepT e) (beginT e (at0 path 0))
def matT (e : qe) (found p : Int) : Bool := (found == (e.Through.length : Int)) && toB e p
def lastP (path : List Int) : Int := at0 path (path.length - 1)
def matchB (e : qe) (path : List Int) : Bool := (fromB e (at0 path 0) && toB e (lastP path)) && (path.foldl (stepT e) 0 == (e.Through.length : Int))

theorem qrf {e : qe} {found p : Int} (h : 0 ≤ found) : 0 ≤ stepT e found p := by
  unfold stepT
  cases decide (found ≥ 0) && (decide (found < (e.Through.length : Int)) && (at0 e.Through found.toNat == p)) <;> simp only [cond_true, cond_false] <;> omega
theorem qqj {e : qe} {p : Int} : stepT e (-1) p = -1 := rfl
theorem qqN {e : qe} {path : List Int} : path.foldl (stepT e) (-1) = -1 := by
  induction path with
  | nil => rfl
  | cons p path ih => rw [List.foldl_cons, qqj]; exact ih
theorem qpC {e : qe} {found p : Int} (hl : e.Through.length ≤ 1048576) : Ev (fun n => qcp n e found p) (stepT e found p) := by
  unfold qcp stepT
  simp only [qan, Option.bind_some]
  cases h1 : decide (found ≥ 0)
  · exact .done
  · cases h2 : decide (found < (e.Through.length : Int))
    · exact .done
    · have h1 := of_decide_eq_true h1
      have h2 := of_decide_eq_true h2
      simp only [cond_true, Bool.true_and]
      obtain ⟨k, rfl⟩ : ∃ k : Nat, found = (k : Int) := ⟨found.toNat, by omega⟩
      rw [qbp (show k < e.Through.length by omega), Int.toNat_natCast]
      simp only [Option.bind_some]
      cases (at0 e.Through k == p)
      · exact .done
      · exact Ev.now (by rw [qfi (by omega) (by omega)]; rfl)
theorem qqs {e : qe} {p : Int} (he : qb0 e) : Ev (fun n => qdG n e p) (beginT e p) := by
  unfold qdG beginT fromB
  have hs := qpC (found := 0) (p := p) he.Through.len
  by_cases h0 : e.From.length = 0
  · exact Ev.ff (by simp [h0]) (by rw [decide_eq_true h0]; exact Ev.bind hs .done)
  · refine Ev.tt (by simp; omega) ?_
    rw [decide_eq_false h0, Bool.false_or]
    refine Ev.bind (qjX he.From.len) ?_
    cases hasI e.From p
    · exact .done
    · exact Ev.ff rfl (Ev.bind hs .done)
theorem qoG {e : qe} {found p : Int} (he : qb0 e) : Ev (fun n => qc2 n e found p) (matT e found p) := by
  unfold qc2 matT toB
  simp only [qan, Option.bind_some]
  refine Ev.andP fun _ => ?_
  by_cases h0 : e.To.length = 0
  · exact Ev.tt (by simp [h0]) (by rw [decide_eq_true h0]; exact .done)
  · refine Ev.ff (by rw [Bool.eq_false_iff, Ne, beq_iff_eq]; omega) ?_
    rw [decide_eq_false h0, Bool.false_or]
    exact Ev.last (qjX he.To.len)

theorem qqe {α : Type} {xs : List α} (h : 1 ≤ xs.length) : subS xs 1 (xs.length : Int) = some (xs.drop 1) := by
  unfold subS
  rw [if_pos ⟨by omega, by omega, by omega⟩]
  simp
theorem qno {e : qe} {xs : List Int} {i0 : Int} {j : Nat} (h : j < xs.length) : stepT e ((xs.take j).foldl (stepT e) i0) (at0 xs j) = (xs.take (j + 1)).foldl (stepT e) i0 := by
  rw [List.take_succ_eq_append_getElem h, List.foldl_append]
  simp [at0, h]
theorem qoL {e : qe} {xs : List Int} {i0 : Int} (he : qb0 e) (hl : xs.length ≤ 1048576) : Ev (fun n => qdw e xs n i0 0) (xs.foldl (stepT e) i0, (xs.length : Int)) := by
  have := loopF (Lf := qdw e xs) (S := fun j => (xs.take j).foldl (stepT e) i0) (len := xs.length) (fin := (xs.foldl (stepT e) i0, (xs.length : Int)))
    (fun n => by simp only [qdw, qv (Nat.le_refl _), cond_false, List.take_length])
    (fun j hj X hX => by
      simp only [qdw, qt hj, cond_true, qbp hj, Option.bind_some, qq (show j < 9223372036854775807 by omega)]
      refine Ev.bind (qpC he.Through.len) ?_
      rw [qno hj]
      exact hX)
  simpa using this
theorem qqJ {es : List qe} {path : List Int} (he : okL qb0 es) (h1 : 1 ≤ path.length) (hl : path.length ≤ 1048576) : Ev (fun n => qiu n es path) (es.map fun e => runT e path) := by
  have hes := he.len
  have hL : Ev (fun n => qdu es path n ([] : List Int) 0) (es.map (fun e => runT e path), (es.length : Int)) := by
    refine loopF (Lf := qdu es path) (S := fun j => (es.take j).map fun e => runT e path) (len := es.length) (fun n => ?_) (fun j hj X hX => ?_)
    · simp only [qdu, qv (Nat.le_refl _), cond_false, List.take_length]
    · have ha : appS ((es.take j).map fun e => runT e path) [runT (gt es j) path] = some ((es.take (j + 1)).map fun e => runT e path) := by
        rw [qdS (by rw [List.length_map, List.length_take, List.length_singleton]; omega), qfu hj]
      have hd : (path.drop 1).length ≤ 1048576 := by rw [List.length_drop]; omega
      simp only [qdu, qt hj, cond_true, qaq hj, Option.bind_some, qq (show j < 9223372036854775807 by omega), qqe h1, show idx path 0 = some (at0 path 0) from qbp (j := 0) (by omega)]
      refine Ev.bind (qqs (qig he hj)) (Ev.bind (qoL (qig he hj) hd) ?_)
      exact Ev.bindN ha hX
  unfold qiu
  exact Ev.bind hL .done

theorem qn4 {e : qe} {path : List Int} (he : qb0 e) (h1 : 1 ≤ path.length) (hl : path.length ≤ 1048576) : Ev (fun n => qfz n e path) (matchB e path) := by
  have i0 : idx path 0 = some (at0 path 0) := qbp (j := 0) (by omega)
  have iE : idx path (W64 ((path.length : Int) - 1)) = some (lastP path) := by
    rw [qbX (by omega), show (path.length : Int) - 1 = ((path.length - 1 : Nat) : Int) by omega, qbp (by omega)]; rfl
  have hTo : Ev (fun n => bif decide ((e.To.length : Int) > 0) then (qeQ n e.To (lastP path)).bind fun r => some (decide (r < 0)) else some false) (!toB e (lastP path)) := by
    unfold toB
    by_cases h0 : e.To.length = 0
    · exact Ev.ff (by simp [h0]) (Ev.now (by rw [decide_eq_true h0]; rfl))
    · refine Ev.tt (by simp; omega) ?_
      rw [decide_eq_false h0, Bool.false_or]
      exact Ev.bind (qlm he.To.len) (Ev.now (by rw [qpq]; rfl))
  have hL : Ev (fun n => qba e path n 0 0) (path.foldl (stepT e) 0, (path.length : Int)) := by
    have := loopF (Lf := qba e path) (S := fun j => (path.take j).foldl (stepT e) 0) (len := path.length) (fin := (path.foldl (stepT e) 0, (path.length : Int)))
      (fun n => by simp only [qba, qv (Nat.le_refl _), cond_false, List.take_length])
      (fun j hj X hX => by
        have hge : ∀ (xs : List Int) i, 0 ≤ i → 0 ≤ xs.foldl (stepT e) i := by
          intro xs
          induction xs with
          | nil => exact fun i h => h
          | cons x xs ih => exact fun i h => by rw [List.foldl_cons]; exact ih _ (qrf h)
        have hf := hge (path.take j) 0 (by omega)
        have hT := he.Through.len
        simp only [qba, qt hj, cond_true, qq (show j < 9223372036854775807 by omega)]
        rw [← qno hj] at hX
        revert hX hf
        generalize (path.take j).foldl (stepT e) 0 = f
        intro hX hf
        unfold stepT at hX
        rw [show decide (f ≥ 0) = true by simpa using hf, Bool.true_and] at hX
        cases h2 : decide (f < (e.Through.length : Int))
        · rw [h2] at hX; exact hX
        · rw [h2, Bool.true_and] at hX
          have h2 := of_decide_eq_true h2
          obtain ⟨k, rfl⟩ : ∃ k : Nat, f = (k : Int) := ⟨f.toNat, by omega⟩
          rw [Int.toNat_natCast] at hX
          rw [qfi (show -9223372036854775808 ≤ (k : Int) + 1 by omega) (by omega)]
          simp only [cond_true, qbp (show k < e.Through.length by omega), qbp hj, Option.bind_some]
          cases h3 : (at0 e.Through k == at0 path j)
          · rw [h3] at hX; exact hX
          · rw [h3] at hX; exact hX)
    simpa using this
  unfold qfz matchB
  simp only [i0, iE, Option.bind_some]
  refine Ev.guardB ?_ fun _ => Ev.bind hL .done
  unfold fromB
  by_cases h0 : e.From.length = 0
  · refine Ev.ff (by simp [h0]) ?_
    rw [decide_eq_true h0, Bool.true_or, Bool.true_and]
    exact hTo
  · refine Ev.tt (by simp; omega) ?_
    rw [decide_eq_false h0, Bool.false_or]
    refine Ev.bind (qlm he.From.len) ?_
    rw [qpq]
    show Ev _ (!(hasI e.From (at0 path 0) && _))
    unfold hasI
    cases e.From.any fun x => x == at0 path 0
    · exact .done
    · exact hTo

theorem qqY {e : qe} {path : List Int} (h1 : 1 ≤ path.length) : matT e (runT e path) (lastP path) = matchB e path := by
  cases path with
  | nil => simp at h1
  | cons p path =>
    unfold matT matchB runT beginT
    rw [show at0 (p :: path) 0 = p from rfl, List.drop_one, List.tail_cons, List.foldl_cons]
    cases fromB e p
    · simp only [cond_false, qqN, Bool.false_and]
      rw [show ((-1 : Int) == (e.Through.length : Int)) = false by rw [Bool.eq_false_iff, Ne, beq_iff_eq]; omega, Bool.false_and]
    · simp only [cond_true, Bool.true_and]
      rw [Bool.and_comm]

theorem qoS {b : qz} {path : List Int} (h : dpathB b path = true) : 1 ≤ path.length ∧ path.length ≤ 60 := by
  unfold dpathB lenB at h
  simp only [Bool.and_eq_true, decide_eq_true_eq] at h
  exact h.1
end Go.Fw


namespace Go.Fw
open Go
set_option maxRecDepth 100000

end Go.Fw


namespace Go.Fw
open Go
set_option maxRecDepth 100000

/-! ### Codes -/

def codeX (b : qz) (es : List qe) : Int := bif blockB b then (bif decide (es.length ≤ 6) then (bif es.all (excB b) then 0 else 5) else 3) else 1
theorem qoZ {b : qz} {es : List qe} (h : codeX b es = 0) : blockB b = true ∧ es.length ≤ 6 ∧ es.all (excB b) = true := by
  unfold codeX at h
  cases h1 : blockB b
  · rw [h1] at h; cases h
  · rw [h1] at h
    cases h2 : decide (es.length ≤ 6)
    · rw [h2] at h; cases h
    · rw [h2] at h
      cases h3 : es.all (excB b)
      · rw [h3] at h; cases h
      · exact ⟨rfl, of_decide_eq_true h2, rfl⟩
theorem qoW {b : qz} {es : List qe} (hok : qfG b) (hes : okL qb0 es) : Ev (fun n => qg8 n b es) (codeX b es) := by
  have hlen := hes.len
  unfold qg8 codeX
  refine Ev.chk1 (qjQ hok) fun h => ?_
  rw [show decide ((es.length : Int) > 6) = !decide (es.length ≤ 6) from qjr (k := 6)]
  simp only [qbA]
  refine Ev.okP1 fun _ => ?_
  have hL : Ev (fun n => qde b es n 0) (bif es.all (excB b) then .nxt (es.length : Int) else .ret 5) := by
    rw [qhI]
    refine qe1 (Ev.succ ?_) (fun j hj X hX => Ev.succ ?_)
    · simp only [qde, qv (Nat.le_refl _), cond_false]; exact .done
    · simp only [qde, qt hj, cond_true, qaq hj, Option.bind_some, qq (show j < 9223372036854775807 by omega)]
      have := qlS hok (qig hes hj)
      rw [h, Bool.true_and] at this
      exact Ev.chk1 this fun _ => hX
  refine Ev.bind hL ?_
  cases es.all (excB b) <;> exact .done

theorem qri {b : qz} {es : List qe} (hok : qfG b) (hes : okL qb0 es) :
    ∃ o, Ev (fun n => qeq n b es) (o, codeX b es) ∧ (codeX b es = 0 → ∃ ls lo de, o = some ⟨b, places b.Design, ls, lo, de, []⟩) := by
  have hlen := hes.len
  unfold qeq codeX
  cases h : blockB b
  · exact ⟨none, Ev.bind (qmw hok) (Ev.tt (by rw [h]; rfl) .done), fun h => by cases h⟩
  · have hb := qmw hok
    rw [h] at hb
    obtain ⟨ls, lo, de, ev⟩ := qoJ h
    cases h6 : decide (es.length ≤ 6)
    · exact ⟨none, Ev.bind hb (Ev.ff rfl (Ev.tt (by rw [show decide ((es.length : Int) > 6) = !decide (es.length ≤ 6) from qjr (k := 6), h6]; rfl) .done)), fun h => by cases h⟩
    · have hc : Ev (fun n => qZ n es (some ⟨b, places b.Design, ls, lo, de, []⟩)) (!es.all (excB b)) := by
        unfold qZ
        refine Ev.bind (b := ixL (fun e => !excB b e) es) (qei (fin := (es.length : Int)) (Lf := qH es (some ⟨b, places b.Design, ls, lo, de, []⟩))
          (pf := fun n x => qdK n x (some ⟨b, places b.Design, ls, lo, de, []⟩)) (fun x hx => ?_)
          (fun n => by simp only [qH, qv (Nat.le_refl _), cond_false])
          (fun n j x hx => by
            have hj := (List.getElem?_eq_some_iff.1 hx).1
            simp only [qH, qt hj, cond_true, qaJ hx, Option.bind_some, qq (show j < 9223372036854775807 by omega)])
          (fun n => by unfold qav; congr 1; funext o; cases o <;> rfl)) (Ev.now ?_)
        · unfold qdK
          exact Ev.neg (qmv h rfl (hes.2 x hx))
        · rw [qia, ← qk2, Bool.not_not]
      cases h3 : es.all (excB b)
      · rw [h3] at hc
        exact ⟨none, Ev.bind hb (Ev.ff rfl (Ev.ff (by rw [show decide ((es.length : Int) > 6) = !decide (es.length ≤ 6) from qjr (k := 6), h6]; rfl) (Ev.bind ev (Ev.bind hc .done)))), fun h => by cases h⟩
      · rw [h3] at hc
        exact ⟨_, Ev.bind hb (Ev.ff rfl (Ev.ff (by rw [show decide ((es.length : Int) > 6) = !decide (es.length ≤ 6) from qjr (k := 6), h6]; rfl) (Ev.bind ev (Ev.bind hc .done)))), fun _ => ⟨ls, lo, de, rfl⟩⟩

/-! ### Tags step by step -/

def pre {α : Type} (f : Nat → α) (j : Nat) : List α := (List.range j).map f
theorem qpy {α : Type} {f : Nat → α} {j : Nat} : (pre f j).length = j := by simp [pre]
theorem qqC {α : Type} {f : Nat → α} {j : Nat} : pre f j ++ [f j] = pre f (j + 1) := by unfold pre; rw [List.range_succ, List.map_append]; rfl
theorem qrs {α : Type} {f : Nat → α} {j : Nat} (h : j ≤ 1048576) : appS (pre f j) [f j] = some (pre f (j + 1)) := by
  rw [qdS (by rw [qpy, List.length_singleton]; omega), qqC]
/-! ### Effects -/

def rankE (e : qe) : Int := (bif decide (e.From.length = 0) then 0 else 4) + (bif decide (e.To.length = 0) then 0 else 2) + (bif decide (e.Through.length = 0) then 0 else 1)
theorem qqE {e : qe} : 0 ≤ rankE e := by
  unfold rankE
  cases decide (e.From.length = 0) <;> cases decide (e.To.length = 0) <;> cases decide (e.Through.length = 0) <;> decide
theorem posL {xs : List Int} : decide ((xs.length : Int) > 0) = !decide (xs.length = 0) := by cases xs <;> simp
theorem qre {e : qe} : Ev (fun n => qeI n e) (rankE e) := by
  unfold qeI rankE
  simp only [posL]
  cases decide (e.From.length = 0) <;> cases decide (e.To.length = 0) <;> cases decide (e.Through.length = 0) <;> exact .now (by decide)
theorem qqt {n : Nat} {e : qe} : qeI n e = some (rankE e) := by
  obtain ⟨N, h⟩ := qre (e := e)
  exact h (max N n) (by omega)
theorem qqn {e : qe} : Ev (fun n => qh1 n e) (rankE e) := by
  unfold qh1 rankE
  refine ⟨4, fun n hn => ?_⟩
  obtain ⟨m, rfl⟩ : ∃ m, n = m + 4 := ⟨n - 4, by omega⟩
  simp only [qes]
  have i0 : idx ([e.Through, e.To, e.From] : List (List Int)) 0 = some e.Through := rfl
  have i1 : idx ([e.Through, e.To, e.From] : List (List Int)) (W64 (0 + 1)) = some e.To := rfl
  have i2 : idx ([e.Through, e.To, e.From] : List (List Int)) (W64 (W64 (0 + 1) + 1)) = some e.From := rfl
  simp only [i0, i1, i2, posL, Option.bind_some]
  cases decide (e.From.length = 0) <;> cases decide (e.To.length = 0) <;> cases decide (e.Through.length = 0) <;> rfl

def pickS (k : Int) (g : Bool) (t : Int × Int) (e : qe) : Int × Int :=
  bif e.Kind != k then t else bif decide (rankE e > t.1) || ((rankE e == t.1) && (decide (e.Value > t.2) == g)) then (rankE e, e.Value) else t
def chooseL (k : Int) (g : Bool) (ms : List qe) : Int × Int := ms.foldl (pickS k g) (-1, -1)

theorem qjs {ms : List qe} {k : Int} {g : Bool} (hl : ms.length ≤ 1048576) : Ev (fun n => qen n ms k g) (chooseL k g ms).2 := by
  have hL : Ev (fun n => qaV ms k g n (-1) (-1) 0) ((chooseL k g ms).1, (chooseL k g ms).2, (ms.length : Int)) := by
    refine (qp6 (xs := ms) (τ := Int × Int) (Lf := fun n t j => qaV ms k g n t.1 t.2 j) (step := pickS k g) (fin := fun t => (t.1, t.2, (ms.length : Int))) (-1, -1) (fun _ _ => True) trivial (fun _ _ _ _ => trivial) (fun n t => ?_) (fun j t hj _ X hX => ?_)).1
    · simp only [qaV, qv (Nat.le_refl _), cond_false]
    · simp only [qaV, qt hj, cond_true, qgN hj, Option.bind_some, qq (show j < 9223372036854775807 by omega)]
      unfold pickS at hX
      refine Ev.bif (fun h1 => ?_) (fun h1 => ?_)
      · rw [h1] at hX; exact hX
      · rw [h1] at hX
        refine Ev.bind qqn (Ev.bif (fun h2 => ?_) (fun h2 => ?_))
        · rw [h2] at hX; exact hX
        · rw [h2] at hX
          refine Ev.bif (fun h3 => ?_) (fun h3 => ?_)
          · rw [h3] at hX
            refine Ev.bif (fun h4 => ?_) (fun h4 => ?_)
            · rw [h4] at hX; exact hX
            · rw [h4] at hX; exact hX
          · rw [h3] at hX; exact hX
  unfold qen
  exact Ev.bind hL .done

/-- The exceptions that are chosen, in order. -/
def selE (es : List qe) (m : Nat → Bool) (j : Nat) : List qe := (selN m j).map (gt es)
theorem qnq {es : List qe} {m : Nat → Bool} {j : Nat} : selE es m (j + 1) = selE es m j ++ (bif m j then [gt es j] else []) := by
  unfold selE
  rw [qpU, List.map_append]
  cases m j <;> rfl
theorem qoA {es : List qe} {m : Nat → Bool} {j : Nat} : (selE es m j).length ≤ j := by unfold selE; rw [List.length_map]; exact qqR
theorem qqO {es : List qe} {m : Nat → Bool} {j : Nat} {e : qe} (h : e ∈ selE es m j) (hj : j ≤ es.length) : e ∈ es := by
  unfold selE at h
  obtain ⟨i, hi, rfl⟩ := List.mem_map.1 h
  have := (qqQ.1 hi).1
  rw [qiF (show i < es.length by omega)]
  exact List.getElem_mem _

theorem qk0 {es : List qe} {m : Nat → Bool} {k : Int} (hl : es.length ≤ 1048576) : Ev (fun n => qeS n es (pre m es.length) k) (chooseL k (k == 4) (selE es m es.length)).2 := by
  have hL : Ev (fun n => qbI es (pre m es.length) k n (-1) (-1) 0) ((chooseL k (k == 4) (selE es m es.length)).1, (chooseL k (k == 4) (selE es m es.length)).2, (es.length : Int)) := by
    refine loopF (τ := Int × Int) (Lf := fun n t j => qbI es (pre m es.length) k n t.1 t.2 j) (S := fun j => chooseL k (k == 4) (selE es m j)) (len := es.length) (fun n => ?_) (fun j hj X hX => ?_)
    · simp only [qbI, qv (Nat.le_refl _), cond_false]
    · have hm : idx (pre m es.length) (j : Int) = some (m j) := by rw [qgN (by rw [qpy]; exact hj)]; simp [pre]
      have hs : chooseL k (k == 4) (selE es m (j + 1)) = bif m j then pickS k (k == 4) (chooseL k (k == 4) (selE es m j)) (gt es j) else chooseL k (k == 4) (selE es m j) := by
        unfold chooseL
        rw [qnq, List.foldl_append]
        cases m j <;> rfl
      simp only [qbI, qt hj, cond_true, qaq hj, hm, Option.bind_some, qqt, qq (show j < 9223372036854775807 by omega)]
      simp only [hs] at hX
      generalize chooseL k (k == 4) (selE es m j) = t at hX ⊢
      cases h1 : m j
      · rw [h1] at hX
        exact Ev.bindN rfl (Ev.tt rfl hX)
      · rw [h1] at hX
        unfold pickS at hX
        cases h2 : (gt es j).Kind != k
        · rw [h2] at hX
          by_cases h3 : rankE (gt es j) < t.1
          · have e1 : decide (rankE (gt es j) > t.1) = false := by simp; omega
            have e2 : (rankE (gt es j) == t.1) = false := by rw [Bool.eq_false_iff, Ne, beq_iff_eq]; omega
            rw [e1, e2] at hX
            exact Ev.bindN (b := true) (by show some (decide _) = _; rw [decide_eq_true h3]) (Ev.tt rfl hX)
          · refine Ev.bindN (b := false) (by show some (decide _) = _; rw [decide_eq_false h3]) (Ev.ff rfl ?_)
            refine Ev.bindN (b := bif k == 4 then decide ((gt es j).Value > t.2) else decide ((gt es j).Value < t.2)) (by cases (k == 4) <;> rfl) ?_
            refine Ev.bindN (b := decide (rankE (gt es j) > t.1) || (bif k == 4 then decide ((gt es j).Value > t.2) else decide ((gt es j).Value < t.2))) (by cases decide (rankE (gt es j) > t.1) <;> rfl) ?_
            cases h4 : decide (rankE (gt es j) > t.1)
            · rw [h4] at hX
              have h4 := of_decide_eq_false h4
              have e3 : rankE (gt es j) = t.1 := by omega
              rw [show (rankE (gt es j) == t.1) = true by simpa using e3] at hX
              simp only [Bool.false_or, Bool.true_and] at hX ⊢
              cases h7 : k == 4
              · rw [h7] at hX
                simp only [cond_false] at hX ⊢
                cases h5 : decide ((gt es j).Value < t.2)
                · cases h6 : decide ((gt es j).Value > t.2)
                  · rw [h6] at hX
                    have h5 := of_decide_eq_false h5
                    have h6 := of_decide_eq_false h6
                    rw [show t.2 = (gt es j).Value by omega]
                    exact hX
                  · rw [h6] at hX
                    rw [e3]
                    exact hX
                · have h5' := of_decide_eq_true h5
                  rw [show decide ((gt es j).Value > t.2) = false by simp; omega] at hX
                  exact hX
              · rw [h7] at hX
                simp only [cond_true] at hX ⊢
                cases h6 : decide ((gt es j).Value > t.2)
                · rw [h6] at hX
                  rw [e3]
                  exact hX
                · rw [h6] at hX
                  exact hX
            · rw [h4] at hX
              exact hX
        · rw [h2] at hX
          exact Ev.bindN rfl (Ev.tt rfl hX)
  unfold qeS
  exact Ev.bind hL .done

def effE (ms : List qe) : qU := ⟨ms.any fun e => e.Kind == 1, bif decide ((chooseL 2 false ms).2 > 0) && ((chooseL 3 false ms).2 == -1) then (chooseL 2 false ms).2 else 1, (chooseL 3 false ms).2, (chooseL 4 true ms).2⟩

theorem qo4 {ms : List qe} (h : ∀ e, e ∈ ms → e.Kind = 1 → e.Value = 0) : ((chooseL 1 false ms).2 == 0) = ms.any fun e => e.Kind == 1 := by
  have main : ∀ (ms : List qe) (t : Int × Int), (∀ e, e ∈ ms → e.Kind = 1 → e.Value = 0) → (t = (-1, -1) ∨ (0 ≤ t.1 ∧ t.2 = 0)) → ((ms.foldl (pickS 1 false) t).2 == 0) = ((t.2 == 0) || ms.any fun e => e.Kind == 1) := by
    intro ms
    induction ms with
    | nil => intro t _ _; simp
    | cons e ms ih =>
      intro t h ht
      rw [List.foldl_cons, List.any_cons]
      have h' := fun x hx => h x (List.mem_cons_of_mem _ hx)
      by_cases hk : e.Kind = 1
      · have hv := h e (List.mem_cons_self ..) hk
        have hr := qqE (e := e)
        have hp : pickS 1 false t e = (rankE e, 0) ∨ (pickS 1 false t e = t ∧ 0 ≤ t.1 ∧ t.2 = 0) := by
          unfold pickS
          rw [hv, show (e.Kind != 1) = false by simp [hk]]
          rcases ht with rfl | ht
          · left
            show (bif decide (rankE e > -1) || _ then _ else _) = _
            rw [decide_eq_true (show rankE e > -1 by omega)]; rfl
          · cases (decide (rankE e > t.1) || ((rankE e == t.1) && (decide ((0 : Int) > t.2) == false)))
            · exact .inr ⟨rfl, ht⟩
            · exact .inl rfl
        rw [show (e.Kind == 1) = true by simp [hk], Bool.true_or, Bool.or_true]
        rcases hp with hp | ⟨hp, ht⟩
        · rw [hp, ih _ h' (.inr ⟨hr, rfl⟩)]; rfl
        · rw [hp, ih _ h' (.inr ht), ht.2]; rfl
      · rw [show pickS 1 false t e = t by unfold pickS; rw [show (e.Kind != 1) = true by simpa using hk]; rfl, ih t h' ht, show (e.Kind == 1) = false by simpa using hk, Bool.false_or]
  exact main ms (-1, -1) h (.inl rfl)

theorem qo9 {b : qz} {e : qe} (h : excB b e = true) (hk : e.Kind = 1) : e.Value = 0 := by
  unfold excB valB at h
  rw [hk] at h
  simp only [Bool.and_eq_true] at h
  have h := h.2.1
  exact eq_of_beq h
theorem qoP {b : qz} {es : List qe} {m : Nat → Bool} (hl : es.length ≤ 1048576) (hx : es.all (excB b) = true) : Ev (fun n => qf8 n es (pre m es.length)) (effE (selE es m es.length)) := by
  have hf := qo4 (ms := selE es m es.length) (fun e he hk => qo9 (b := b) (List.all_eq_true.1 hx e (qqO he (Nat.le_refl _))) hk)
  unfold qf8 effE
  refine Ev.bind (qk0 (k := 3) hl) (Ev.bind (qk0 (k := 4) hl) (Ev.bind (qk0 (k := 1) hl) (Ev.bind (qk0 (k := 2) hl) ?_)))
  rw [← hf]
  show Ev (fun _ => bif (chooseL 3 false (selE es m es.length)).2 == -1 then (bif decide ((chooseL 2 false (selE es m es.length)).2 > 0) then _ else _) else _) _
  cases (chooseL 3 false (selE es m es.length)).2 == -1 <;> cases decide ((chooseL 2 false (selE es m es.length)).2 > 0) <;> exact .done

theorem qpi {es : List qe} {tag : List Int} {p : Int} (hes : okL qb0 es) (ht : tag.length = es.length) : Ev (fun n => qgp n es tag p) (effE (selE es (fun i => matT (gt es i) (at0 tag i) p) es.length)) := by
  have hl := hes.len
  have hL : Ev (fun n => qbK es tag p n ([] : List qe) 0) (selE es (fun i => matT (gt es i) (at0 tag i) p) es.length, (es.length : Int)) := by
    refine loopF (Lf := qbK es tag p) (S := selE es (fun i => matT (gt es i) (at0 tag i) p)) (len := es.length) (fun n => ?_) (fun j hj X hX => ?_)
    · simp only [qbK, qv (Nat.le_refl _), cond_false]
    · have hsl := qoA (es := es) (m := fun i => matT (gt es i) (at0 tag i) p) (j := j)
      simp only [qbK, qt hj, cond_true, qaq hj, qbp (show j < tag.length by omega), Option.bind_some, qq (show j < 9223372036854775807 by omega)]
      refine Ev.bind (qoG (qig hes hj)) ?_
      rw [qnq] at hX
      cases h1 : matT (gt es j) (at0 tag j) p
      · simp only [h1, cond_false, List.append_nil] at hX
        exact Ev.ff rfl hX
      · simp only [h1, cond_true] at hX
        exact Ev.tt rfl (Ev.bindN (qdS (by rw [List.length_singleton]; omega)) hX)
  have hsl := qoA (es := es) (m := fun i => matT (gt es i) (at0 tag i) p) (j := es.length)
  unfold qgp
  refine Ev.bind hL ?_
  generalize selE es (fun i => matT (gt es i) (at0 tag i) p) es.length = ms at hsl ⊢
  have hms : ms.length ≤ 1048576 := by omega
  have hc : Ev (fun n => qae n ms) (ms.any fun e => e.Kind == 1) := by
    unfold qae
    refine Ev.bind (b := ixL (fun e : qe => e.Kind == 1) ms) (qei (fin := (ms.length : Int)) (Lf := qL ms) (pf := fun n x => qgI n x) (fun x hx => .done)
      (fun n => by simp only [qL, qv (Nat.le_refl _), cond_false])
      (fun n j x hx => by
        have hj := (List.getElem?_eq_some_iff.1 hx).1
        simp only [qL, qt hj, cond_true, qaJ hx, Option.bind_some, qq (show j < 9223372036854775807 by omega)])
      (fun n => by unfold qaI; congr 1; funext o; cases o <;> rfl)) (Ev.now ?_)
    rw [qia]
  refine Ev.bind (qjs hms) (Ev.bind (qjs hms) (Ev.bind hc (Ev.bind (qjs hms) ?_)))
  unfold effE
  cases decide ((chooseL 2 false ms).2 > 0) <;> cases (chooseL 3 false ms).2 == -1 <;> exact .done

/-! ### Tags that fit -/

end Go.Fw


namespace Go.Fw
open Go Go.Proofs
open Go.RowKit (Below)
set_option maxRecDepth 100000
set_option maxHeartbeats 1600000
def qgy (_ : Nat) (a : qU) (b : qU) : Option Bool :=
 bif (!(a.False == b.False)) then
  some false
 else
  bif (a.Cycles != b.Cycles) then
   some false
  else
   bif (a.MaxLimit != b.MaxLimit) then
    some false
   else
    bif (a.MinLimit != b.MinLimit) then
     some false
    else
     some true

theorem qls {n : Nat} {w : World} {a : qU} {b : qU} {cs1 : List Value} (ha1 : GoT.R w (old w) a cs1) {cs2 : List Value} (ha2 : GoT.R w (old w) b cs2) {r : Bool} (hF : qgy n a b = some r) : RetV Tryz.prog 16 [GoT.v qU cs1, GoT.v qU cs2] w r := by
 obtain rfl := qge ha1
 obtain rfl := qge ha2
 refine qf Tryz.func16 rfl (m := 25) rfl rfl (fun h => ?_)
 rw [qgy] at hF
 refine zSR (qP h rfl rfl ?_)
 intro w1 bb1 h
 refine qP h rfl rfl ?_
 intro w2 bb2 h
 refine zp1 rfl (zNSSR (zp1 rfl (zl 1 0 h rfl (zp1 rfl (zl 0 0 h rfl (zp1 rfl (qb ?_)))))))
 refine qp rfl hF ?_ ?_ <;> intro hF
 ·exact zSR (zp1 rfl (qb (qx qc h hF ⟨rfl, trivial⟩)))
 refine zKSSR (zp1 rfl (zl 1 1 h rfl (zp1 rfl (zl 0 1 h rfl (zp1 rfl (qb ?_))))))
 refine qp rfl hF ?_ ?_ <;> intro hF
 ·exact zSR (zp1 rfl (qb (qx qc h hF ⟨rfl, trivial⟩)))
 refine zKSSR (zp1 rfl (zl 1 2 h rfl (zp1 rfl (zl 0 2 h rfl (zp1 rfl (qb ?_))))))
 refine qp rfl hF ?_ ?_ <;> intro hF
 ·exact zSR (zp1 rfl (qb (qx qc h hF ⟨rfl, trivial⟩)))
 refine zKSSR (zp1 rfl (zl 1 3 h rfl (zp1 rfl (zl 0 3 h rfl (zp1 rfl (qb ?_))))))
 refine qp rfl hF ?_ ?_ <;> intro hF
 ·exact zSR (zp1 rfl (qb (qx qc h hF ⟨rfl, trivial⟩)))
 exact zKSR (zp1 rfl (qb (qx qc h hF ⟨rfl, trivial⟩)))

def qcl (list : (List qe)) (path : (List Int)) : Nat → (List Bool) → Int → Option ((List Bool) × Int)
 | 0, _, _ => none
 | n + 1, x1, i1 =>
  bif decide (i1 < (list.length : Int)) then
   (idx list i1).bind fun y1 =>
   (qfz n y1 path).bind fun r3 =>
   (appS x1 ([r3] : List Bool)).bind fun x2 =>
   qcl list path n x2 (W64 (i1 + 1))
  else
   some (x1, i1)

def qgz (n : Nat) (b : qz) (list : (List qe)) (path : (List Int)) : Option (qU × Int) :=
 (qg8 n b list).bind fun r1 =>
 bif (r1 != 0) then
  some ((⟨false, 0, 0, 0⟩ : qU), r1)
 else
  (qfy n b path).bind fun r2 =>
  bif (!r2) then
   some ((⟨false, 0, 0, 0⟩ : qU), 2)
  else
   (qcl list path n ([] : List Bool) 0).bind fun o => match o with
   | (x1, _) =>
    (qf8 n list x1).bind fun r4 =>
    some (r4, 0)

theorem qlv {n : Nat} {w : World} {b : qz} {list : (List qe)} {path : (List Int)} {cs1 : List Value} (ha1 : GoT.R w (old w) b cs1) {cs2 : List Value} (ha2 : GoT.R w (old w) list cs2) {cs3 : List Value} (ha3 : GoT.R w (old w) path cs3) {r : (qU × Int)} (hF : qgz n b list path = some r) : RetV Tryz.prog 28 [GoT.v qz cs1, GoT.v (List qe) cs2, GoT.v (List Int) cs3] w r := by
 obtain ⟨p1, k1, p2, k2, p3, k3, p4, k4, p5, k5, rfl, s1, s2, s3, s4, s5⟩ := qat ha1
 obtain ⟨p6, k6, rfl, s6⟩ := ha2
 obtain ⟨p7, k7, rfl, s7⟩ := ha3
 refine qf Tryz.func28 rfl (m := 42) rfl rfl (fun h => ?_)
 rw [qgz] at hF
 refine zSR (qP h rfl rfl ?_)
 intro w1 bb1 h
 refine qT qc h rfl rfl rfl ?_
 intro w2 bb2 h
 refine zp1 rfl (zNSR (zl 1 0 h rfl (zp1 rfl ?_)))
 obtain ⟨r1, hr1, hF⟩ := qd hF
 refine qN r1 h call62 (qlU (h.old ha1) ⟨_, _, rfl, (h.oldS s6)⟩ hr1) rfl rfl rfl rfl ?_
 intro w3 h
 refine zp1 rfl (zNSSR (zp2 rfl (qb ?_)))
 refine qp rfl hF ?_ ?_ <;> intro hF
 ·refine zSR (r_v (qeM qc [] [] rfl rfl rfl rfl rfl rfl rfl rfl) rfl (zp1 rfl (zs 0 h rfl ?_)))
  intro w4 h
  refine zp1 rfl (qb ?_)
  obtain rfl := qj hF
  exact qad qc (ρ := (qU × Int)) [GoT.v qU [.bool false, .int .i64 0, .int .i64 0, .int .i64 0], GoT.v Int [.int .i64 r1]] h ⟨⟨_, _, _, rfl, rfl, h.box 0 rfl, rfl⟩, rfl, trivial⟩ (PV.done h (qe6 h (qas (S := fun _ => False) (qdI (⟨false, 0, 0, 0⟩ : qU))) (qai (qas (S := fun _ => False) rfl)) (by rfl)))
 refine zKSSR (zl 1 0 h rfl (zp1 rfl ?_))
 obtain ⟨r2, hr2, hF⟩ := qd hF
 refine qm r2 h call63 (qkx (h.old ha1) ⟨_, _, rfl, (h.oldS s7)⟩ hr2) rfl rfl rfl rfl ?_
 intro w5 h
 refine zp1 rfl (qb ?_)
 refine qp rfl hF ?_ ?_ <;> intro hF
 ·refine zSR (r_v (qeM qc [] [] rfl rfl rfl rfl rfl rfl rfl rfl) rfl (zs 0 h rfl ?_))
  intro w6 h
  replace h : SH _ _ [Ch.box bb2 [.bool false, .int .i64 0, .int .i64 0, .int .i64 0] 38, Ch.box bb1 [.slice p1 b.Library.Cells.length k1, .slice p2 b.Design.Instances.length k2, .slice p3 b.Design.Nets.length k3, .slice p4 b.Design.Ports.length k4, .slice p5 b.Wires.length k5] 50] := h
  refine zp1 rfl (qb ?_)
  obtain rfl := qj hF
  exact qad qc (ρ := (qU × Int)) [GoT.v qU [.bool false, .int .i64 0, .int .i64 0, .int .i64 0], GoT.v Int [.int .i64 2]] h ⟨⟨_, _, _, rfl, rfl, h.box 0 rfl, rfl⟩, rfl, trivial⟩ (PV.done h (qe6 h (qas (S := fun _ => False) (qdI (⟨false, 0, 0, 0⟩ : qU))) (qai (qas (S := fun _ => False) rfl)) (by rfl)))
 refine zKSR (qaN qc [] _ ([] : List Bool) h rfl rfl rfl rfl rfl rfl rfl rfl rfl trivial rfl ?_)
 intro w7 p8 S1 h
 refine zp1 rfl (zNSSR (zp1 rfl (qb ?_)))
 obtain ⟨o1, hF, hK1⟩ := qd hF
 refine qA ?_
 replace h := h.pick [0, 1] rfl
 refine qW [(1, _), (2, _), (6, _), (9, _), (10, _)] ⟨rfl, rfl, rfl, rfl, rfl, trivial⟩ ?_
 refine qG (fun m e w' => ∃ (S2 : Nat → Prop) (p9 : Option Addr) (ln1 : Nat) (k8 : Nat) (x1 : (List Bool)) (i1 : Int), qcl list path m x1 i1 = some o1 ∧ e = [(1, .slice p6 list.length k6), (2, .slice p7 path.length k7), (6, .pointer (some ⟨bb2, 0, none⟩)), (9, .slice p9 ln1 k8), (10, .int .i64 i1)] ∧ SH w w' [Ch.own S2 (x1 : List Bool) [.slice p9 ln1 k8], Ch.box bb2 [.bool false, .int .i64 0, .int .i64 0, .int .i64 0] 38]) n ⟨_, _, _, _, _, _, hF, rfl, h⟩ ?_
 rintro m1 e1 w8 ⟨S2, p9, ln1, k8, x1, i1, hF, rfl, h⟩
 obtain rfl := (h.sl 0 rfl).2
 rcases m1 with _ | m1
 ·rw [qcl] at hF
  cases hF
 rw [qcl] at hF
 refine zSSR (zp4 rfl (qb ?_))
 refine qp rfl hF ?_ ?_ <;> intro hF
 ·refine zKSBR (zp3 rfl ?_)
  obtain ⟨y1, hy1, hF⟩ := qd hF
  have he1 := qg hy1
  obtain ⟨b1, o_1, q1, cs4, hp1, hq1, -, hr3, hc4⟩ := s6.at hy1
  obtain ⟨p10, k9, p11, k10, p12, k11, rfl, s8, s9, s10⟩ := qI hr3
  refine zxe hp1 hq1 he1 rfl (zc 0 (hc4.below h.below) rfl (zp1 rfl ?_))
  obtain ⟨r3, hr4, hF⟩ := qd hF
  refine qm r3 h call64 (qkE (qaO y1 (h.oldS s8) (h.oldS s9) (h.oldS s10)) ⟨_, _, rfl, (h.oldS s7)⟩ hr4) rfl rfl rfl rfl ?_
  intro w9 h
  refine qaN qc [.tmp 36] _ ([r3] : List Bool) h rfl rfl rfl rfl rfl rfl rfl rfl rfl ⟨rfl, trivial⟩ rfl ?_
  intro w10 p13 S3 h
  obtain ⟨x2, hx1, hF⟩ := qd hF
  obtain ⟨g1, hx1⟩ := qbm hx1
  refine qeC qc 1 h rfl (h.sl 0 rfl).1 (h.sl 0 rfl).2 rfl rfl rfl rfl rfl rfl rfl rfl rfl g1 hx1 rfl ?_
  intro w11 p14 k12 S4 h
  refine zp1 rfl (zNER (zp3 rfl (qb ?_)))
  replace h := h.pick [1, 2] rfl
  exact qy m1 [(1, _), (2, _), (6, _), (9, _), (10, _)] (Nat.lt_succ_self m1) ⟨rfl, rfl, rfl, rfl, rfl, trivial⟩ ⟨_, _, _, _, _, _, hF, rfl, h⟩
 refine qF rfl ?_
 obtain rfl := qj hF; replace hF := hK1
 refine zSR (zp2 rfl ?_)
 obtain ⟨r4, hr5, hF⟩ := qd hF
 refine qfq r4 h call65 (qkQ ⟨_, _, rfl, (h.oldS s6)⟩ (h.own 0 rfl) hr5) rfl rfl rfl rfl ?_
 intro w12 S5 cs5 h
 obtain rfl := qge (h.own 0 rfl)
 refine zs 2 h rfl ?_
 intro w13 h
 refine zp1 rfl (qb ?_)
 obtain rfl := qj hF
 exact qad qc (ρ := (qU × Int)) [GoT.v qU [.bool r4.False, .int .i64 r4.Cycles, .int .i64 r4.MaxLimit, .int .i64 r4.MinLimit], GoT.v Int [.int .i64 0]] h ⟨⟨_, _, _, rfl, rfl, h.box 2 rfl, rfl⟩, rfl, trivial⟩ (PV.done h (qe6 h (qaB 0 h rfl) (qai (qas (S := fun _ => False) rfl)) (by rfl)))

def qgt (n : Nat) (b : qz) (list : (List qe)) (path : (List Int)) : Option (qU × Int) :=
 (qeq n b list).bind fun o => match o with
  | (r2, r3) =>
   bif (r3 != 0) then
    some ((⟨false, 0, 0, 0⟩ : qU), r3)
   else
    (qdN n r2 path).bind fun r4 =>
    bif (!r4) then
     some ((⟨false, 0, 0, 0⟩ : qU), 2)
    else
     (idx path (W64 ((path.length : Int) - 1))).bind fun y1 =>
     (qiu n list path).bind fun r5 =>
     (qgp n list r5 y1).bind fun r6 =>
     some (r6, 0)

theorem qlh {n : Nat} {w : World} {b : qz} {list : (List qe)} {path : (List Int)} {cs1 : List Value} (ha1 : GoT.R w (old w) b cs1) {cs2 : List Value} (ha2 : GoT.R w (old w) list cs2) {cs3 : List Value} (ha3 : GoT.R w (old w) path cs3) {r : (qU × Int)} (hF : qgt n b list path = some r) : RetV Tryz.prog 29 [GoT.v qz cs1, GoT.v (List qe) cs2, GoT.v (List Int) cs3] w r := by
 obtain ⟨p1, k1, p2, k2, p3, k3, p4, k4, p5, k5, rfl, s1, s2, s3, s4, s5⟩ := qat ha1
 obtain ⟨p6, k6, rfl, s6⟩ := ha2
 obtain ⟨p7, k7, rfl, s7⟩ := ha3
 refine qf Tryz.func29 rfl (m := 38) rfl rfl (fun h => ?_)
 rw [qgt] at hF
 refine zSR (qP h rfl rfl ?_)
 intro w1 bb1 h
 refine qT qc h rfl rfl rfl ?_
 intro w2 bb2 h
 refine zp1 rfl (zNSR (zl 1 0 h rfl (zp1 rfl ?_)))
 have hg1 : Rg (old w) w (old w) w := .start (fun _ h => h)
 obtain ⟨r1, hr1, hF⟩ := qd hF
 obtain ⟨r2, r3⟩ := r1
 refine qpD (r2, r3) hg1 h call66 (qjG (hg1.regOld h) (hg1.inR h ha1) ⟨_, _, rfl, (hg1.inS h s6)⟩ hr1) rfl rfl rfl rfl ?_
 intro w3 us1 B1 hg2 hu1 hz1 hv1
 have hL1 := h.ext hu1.below
 have s8 := Up.S hg1 h hu1 s6
 have s9 := Up.S hg1 h hu1 s7
 have hc1 := Up.box 0 h hu1 rfl
 have ha4 := Up.boxP (x := (⟨false, 0, 0, 0⟩ : qU)) hg1 0 h hu1 rfl (qdI (⟨false, 0, 0, 0⟩ : qU))
 have hb1 := h.below.trans (hu1.below.mono h.below.size)
 replace h := hz1
 obtain ⟨cs4, us2, rfl, hr2, hv2⟩ := qrA hv1
 obtain ⟨p8, rfl, s10⟩ := qhb hr2
 obtain ⟨cs5, rfl, hr3⟩ := qly hv2
 obtain rfl := hr3
 refine zp5 rfl (zNSB (zSR (zp2 rfl ?_)))
 refine zp1 rfl (qb ?_)
 refine qp rfl hF ?_ ?_ <;> intro hF
 ·refine zSR (r_v (qeM qc [] [] rfl rfl rfl rfl rfl rfl rfl rfl) rfl (zp1 rfl ?_))
  replace h := SH.back hL1 h (show NoD [] from trivial)
  refine zs 0 h rfl ?_
  intro w5 h
  refine zp1 rfl (qb ?_)
  replace h := h.unbase hg1.below ⟨fun _ h => h, ⟨fun _ h => h, trivial⟩⟩
  obtain rfl := qj hF
  exact qad qc (ρ := (qU × Int)) [GoT.v qU [.bool false, .int .i64 0, .int .i64 0, .int .i64 0], GoT.v Int [.int .i64 r3]] h ⟨⟨_, _, _, rfl, rfl, h.box 0 rfl, rfl⟩, rfl, trivial⟩ (PV.done h (qe6 h (qas (S := fun _ => False) (qdI (⟨false, 0, 0, 0⟩ : qU))) (qai (qas (S := fun _ => False) rfl)) (by rfl)))
 refine zSR (zp2 rfl ?_)
 obtain ⟨r4, hr4, hF⟩ := qd hF
 refine qm r4 h call67 (qjb (h.old (GoT.mono s10 hg2.old)) ⟨_, _, rfl, (h.oldS (s9.mono hg2.old))⟩ hr4) rfl rfl rfl rfl ?_
 intro w6 h
 refine zp2 rfl (qb ?_)
 refine qp rfl hF ?_ ?_ <;> intro hF
 ·refine zSR (r_v (qeM qc [] [] rfl rfl rfl rfl rfl rfl rfl rfl) rfl ?_)
  replace h := SH.back hL1 h (show NoD [] from trivial)
  refine zs 0 h rfl ?_
  intro w8 h
  replace h : SH _ _ [Ch.box bb2 [.bool false, .int .i64 0, .int .i64 0, .int .i64 0] 38, Ch.box bb1 [.slice p1 b.Library.Cells.length k1, .slice p2 b.Design.Instances.length k2, .slice p3 b.Design.Nets.length k3, .slice p4 b.Design.Ports.length k4, .slice p5 b.Wires.length k5] 50] := h
  refine zp1 rfl (qb ?_)
  replace h := h.unbase hg1.below ⟨fun _ h => h, ⟨fun _ h => h, trivial⟩⟩
  obtain rfl := qj hF
  exact qad qc (ρ := (qU × Int)) [GoT.v qU [.bool false, .int .i64 0, .int .i64 0, .int .i64 0], GoT.v Int [.int .i64 2]] h ⟨⟨_, _, _, rfl, rfl, h.box 0 rfl, rfl⟩, rfl, trivial⟩ (PV.done h (qe6 h (qas (S := fun _ => False) (qdI (⟨false, 0, 0, 0⟩ : qU))) (qai (qas (S := fun _ => False) rfl)) (by rfl)))
 refine zKE (qbl ?_)
 replace h := SH.back hL1 h (show NoD [] from trivial)
 refine qfO [] (fun w' => SH w w' []) rfl 13 rfl #[ff, ff, ff, ff, ff, ff, ff, ff, ff, ff, ff, ff, ff] (by kernel_rfl) (fun w9 hb => ?_)
 replace h := h.ext hb
 clear hb
 refine qk 0 rfl #[tt, ff, ff, ff, ff, ff, ff, ff, ff, ff, ff, ff, ff] (by kernel_rfl) (by kernel_rfl) (fun w' hw => v_p qc rfl w') (h.pick [] rfl) rfl ?_
 refine qk 1 rfl #[tt, tt, ff, ff, ff, ff, ff, ff, ff, ff, ff, ff, ff] (by kernel_rfl) (by kernel_rfl) (fun w' hw => v_p qc rfl w') (h.pick [] rfl) rfl ?_
 refine qk 2 rfl #[tt, tt, tt, ff, ff, ff, ff, ff, ff, ff, ff, ff, ff] (by kernel_rfl) (by kernel_rfl) (fun w' hw => v_p qc rfl w') (h.pick [] rfl) rfl ?_
 refine qk 4 rfl #[tt, tt, tt, ff, tt, ff, ff, ff, ff, ff, ff, ff, ff] (by kernel_rfl) (by kernel_rfl) (fun w' hw => v_p qc rfl w') (h.pick [] rfl) rfl ?_
 refine qk 5 rfl #[tt, tt, tt, ff, tt, tt, ff, ff, ff, ff, ff, ff, ff] (by kernel_rfl) (by kernel_rfl) (fun w' hw => v_p qc rfl w') (h.pick [] rfl) rfl ?_
 refine qk 6 rfl #[tt, tt, tt, ff, tt, tt, tt, ff, ff, ff, ff, ff, ff] (by kernel_rfl) (by kernel_rfl) (fun w' hw => v_p qc rfl w') (h.pick [] rfl) rfl ?_
 refine qk 7 rfl #[tt, tt, tt, ff, tt, tt, tt, tt, ff, ff, ff, ff, ff] (by kernel_rfl) (by kernel_rfl) (fun w' hw => v_p qc rfl w') (h.pick [] rfl) rfl ?_
 obtain ⟨y1, hy1, hF⟩ := qd hF
 have he1 := qg hy1
 obtain ⟨b1, o_1, q1, cs6, hp1, hq1, -, hr5, hc4⟩ := s7.at hy1
 obtain rfl := hr5
 refine qk 8 rfl #[tt, tt, tt, ff, tt, tt, tt, tt, tt, ff, ff, ff, ff] (by kernel_rfl) (by kernel_rfl) (fun w' hw => qfA qc hp1 hq1 ⟨he1.1, he1.2.1⟩ rfl rfl rfl rfl rfl rfl) (h.pick [] rfl) rfl ?_
 refine qk 9 rfl #[tt, tt, tt, ff, tt, tt, tt, tt, tt, tt, ff, ff, ff] (by kernel_rfl) (by kernel_rfl) (fun w' hw => qbE qc (hc4.below hw.below) (j := 0) rfl rfl rfl) (h.pick [] rfl) rfl ?_
 refine qax 3 rfl #[tt, tt, tt, tt, tt, tt, tt, tt, tt, tt, ff, ff, ff] (by kernel_rfl) (by kernel_rfl) ?_
 obtain ⟨r5, hr6, hF⟩ := qd hF
 refine qap r5 h call61 (qnb ⟨_, _, rfl, (h.oldS (s6.mono hg1.old))⟩ ⟨_, _, rfl, (h.oldS (s7.mono hg1.old))⟩ hr6) rfl rfl rfl rfl ?_
 intro w10 S1 p9 k8 h
 refine qao (fun _ => (h.pick [] rfl)) ?_
 refine qax 10 rfl #[tt, tt, tt, tt, tt, tt, tt, tt, tt, tt, tt, ff, ff] (by kernel_rfl) (by kernel_rfl) ?_
 obtain ⟨r6, hr7, hF⟩ := qd hF
 refine qfq r6 h call50 (qlw ⟨_, _, rfl, (h.oldS (s6.mono hg1.old))⟩ (h.own 0 rfl) hr7) rfl rfl rfl rfl ?_
 intro w11 S2 cs7 h
 obtain rfl := qge (h.own 0 rfl)
 refine qao (fun _ => (h.pick [] rfl)) ?_
 refine qax 11 rfl #[tt, tt, tt, tt, tt, tt, tt, tt, tt, tt, tt, tt, ff] (by kernel_rfl) (by kernel_rfl) ?_
 refine zs 2 h rfl ?_
 intro w12 h
 replace h : SH _ _ [Ch.own S2 (r6 : qU) [.bool r6.False, .int .i64 r6.Cycles, .int .i64 r6.MaxLimit, .int .i64 r6.MinLimit], Ch.own S1 (r5 : List Int) [.slice p9 r5.length k8], Ch.box bb2 [.bool r6.False, .int .i64 r6.Cycles, .int .i64 r6.MaxLimit, .int .i64 r6.MinLimit] 38, Ch.box bb1 [.slice p1 b.Library.Cells.length k1, .slice p2 b.Design.Instances.length k2, .slice p3 b.Design.Nets.length k3, .slice p4 b.Design.Ports.length k4, .slice p5 b.Wires.length k5] 50] := h
 refine qao (fun _ => (h.pick [] rfl)) ?_
 refine qk 12 rfl #[tt, tt, tt, tt, tt, tt, tt, tt, tt, tt, tt, tt, tt] (by kernel_rfl) (by kernel_rfl) (fun w' hw => v_p qc rfl w') (h.pick [] rfl) rfl ?_
 refine qdn (by kernel_rfl) ?_
 replace h := h.unbase hg1.below ⟨fun _ h => h, ⟨fun _ h => h, ⟨fun _ h => h, ⟨fun _ h => h, trivial⟩⟩⟩⟩
 obtain rfl := qj hF
 exact qad qc (ρ := (qU × Int)) [GoT.v qU [.bool r6.False, .int .i64 r6.Cycles, .int .i64 r6.MaxLimit, .int .i64 r6.MinLimit], GoT.v Int [.int .i64 0]] h ⟨⟨_, _, _, rfl, rfl, h.box 2 rfl, rfl⟩, rfl, trivial⟩ (PV.done h (qe6 h (qaB 0 h rfl) (qai (qas (S := fun _ => False) rfl)) (by rfl)))

def qeW (n : Nat) (a_0 : qz) (a_1 : (List qe)) (a_2 : (List Int)) : Option Bool :=
 bif decide ((a_2.length : Int) > 1048576) then
  some true
 else
  (qhz n a_0 1048576).bind fun r1 =>
  bif decide (r1 < 0) then
   some true
  else
   (qfS n a_1 r1).bind fun r2 =>
   bif decide (r2 < 0) then
    some true
   else
    (qfx n a_0).bind fun r3 =>
    (qcW n a_1).bind fun r4 =>
    (qaM n a_2).bind fun r5 =>
    (qgz n r3 r4 r5).bind fun o => match o with
     | (r7, r8) =>
      (qfx n a_0).bind fun r9 =>
      (qcW n a_1).bind fun r10 =>
      (qaM n a_2).bind fun r11 =>
      (qgt n r9 r10 r11).bind fun o => match o with
       | (r13, r14) =>
        (
         (qgy n r13 r7).bind fun r21 =>
         bif (!r21) then
          some true
         else
          some (r14 != r8)).bind fun b1 =>
        bif b1 then
         some false
        else
         (qfx n a_0).bind fun r15 =>
         (qhp n r9 r15).bind fun r16 =>
         bif (!r16) then
          some false
         else
          (qcW n a_1).bind fun r17 =>
          (qeU n r10 r17).bind fun r18 =>
          bif (!r18) then
           some false
          else
           (qaM n a_2).bind fun r19 =>
           (qa4 n r11 r19).bind fun r20 =>
           bif (!r20) then
            some false
           else
            some true

theorem qi9 {n : Nat} {w : World} {a_0 : qz} {a_1 : (List qe)} {a_2 : (List Int)} {cs1 : List Value} (ha1 : GoT.R w (old w) a_0 cs1) {cs2 : List Value} (ha2 : GoT.R w (old w) a_1 cs2) {cs3 : List Value} (ha3 : GoT.R w (old w) a_2 cs3) {r : Bool} (hF : qeW n a_0 a_1 a_2 = some r) : RetV Tryz.prog 6 [GoT.v qz cs1, GoT.v (List qe) cs2, GoT.v (List Int) cs3] w r := by
 obtain ⟨p1, k1, p2, k2, p3, k3, p4, k4, p5, k5, rfl, s1, s2, s3, s4, s5⟩ := qat ha1
 obtain ⟨p6, k6, rfl, s6⟩ := ha2
 obtain ⟨p7, k7, rfl, s7⟩ := ha3
 refine qf Tryz.func6 rfl (m := 75) rfl rfl (fun h => ?_)
 rw [qeW] at hF
 refine zSR (qP h rfl rfl ?_)
 intro w1 bb1 h
 refine zp1 rfl (zNSSR (zp3 rfl (qb ?_)))
 refine qp rfl hF ?_ ?_ <;> intro hF
 ·exact zSR (zp1 rfl (qb (qx qc h hF ⟨rfl, trivial⟩)))
 refine zKSR (zp1 rfl (zNSR (zl 0 0 h rfl (zp1 rfl ?_))))
 obtain ⟨r1, hr1, hF⟩ := qd hF
 refine qN r1 h call9 (qlH (h.old ha1) hr1) rfl rfl rfl rfl ?_
 intro w2 h
 refine zp1 rfl (zNSSR (zp2 rfl (qb ?_)))
 refine qp rfl hF ?_ ?_ <;> intro hF
 ·exact zSR (zp1 rfl (qb (qx qc h hF ⟨rfl, trivial⟩)))
 refine zKSR (zp2 rfl ?_)
 obtain ⟨r2, hr2, hF⟩ := qd hF
 refine qN r2 h call10 (qjY ⟨_, _, rfl, (h.oldS s6)⟩ hr2) rfl rfl rfl rfl ?_
 intro w3 h
 refine zp1 rfl (zNSSR (zp2 rfl (qb ?_)))
 refine qp rfl hF ?_ ?_ <;> intro hF
 ·exact zSR (zp1 rfl (qb (qx qc h hF ⟨rfl, trivial⟩)))
 refine zKSR (zl 0 0 h rfl ?_)
 obtain ⟨r3, hr3, hF⟩ := qd hF
 refine qfq r3 h call12 (qib (h.old ha1) hr3) rfl rfl rfl rfl ?_
 intro w4 S1 cs4 h
 obtain ⟨p8, k8, p9, k9, p10, k10, p11, k11, p12, k12, rfl, -, -, -, -, -⟩ := qat (h.own 0 rfl)
 refine zp1 rfl ?_
 obtain ⟨r4, hr4, hF⟩ := qd hF
 refine qap r4 h call13 (qfX ⟨_, _, rfl, (h.oldS s6)⟩ hr4) rfl rfl rfl rfl ?_
 intro w5 S2 p13 k13 h
 refine zp1 rfl ?_
 obtain ⟨r5, hr5, hF⟩ := qd hF
 refine qap r5 h call14 (qaK ⟨_, _, rfl, (h.oldS s7)⟩ hr5) rfl rfl rfl rfl ?_
 intro w6 S3 p14 k14 h
 obtain ⟨r6, hr6, hF⟩ := qd hF
 obtain ⟨r7, r8⟩ := r6
 refine qie (r7, r8) h call28 (qlv (h.own 2 rfl) (h.own 1 rfl) (h.own 0 rfl) hr6) rfl rfl rfl rfl ?_
 intro w7 S4 us1 hv1 hr7
 obtain ⟨S5, S6, cs5, us2, rfl, hv2, hr8⟩ := hv1.cons hr7
 obtain rfl := qge (hv2.sh.own 0 rfl)
 obtain ⟨rfl, h⟩ := hv2.lastI hr8
 refine zp3 rfl (qT qc h rfl rfl rfl ?_)
 intro w8 bb2 h
 refine zs 0 h rfl ?_
 intro w9 h
 refine zp1 rfl (zNSR (zl 5 0 h rfl ?_))
 obtain ⟨r9, hr10, hF⟩ := qd hF
 refine qfq r9 h call12 (qib (h.old ha1) hr10) rfl rfl rfl rfl ?_
 intro w10 S8 cs6 h
 obtain ⟨p15, k15, p16, k16, p17, k17, p18, k18, p19, k19, rfl, -, -, -, -, -⟩ := qat (h.own 0 rfl)
 refine qT qc h rfl rfl rfl ?_
 intro w11 bb3 h
 refine zs 0 h rfl ?_
 intro w12 h
 replace h : SH _ _ [Ch.box bb3 [.slice p15 r9.Library.Cells.length k15, .slice p16 r9.Design.Instances.length k16, .slice p17 r9.Design.Nets.length k17, .slice p18 r9.Design.Ports.length k18, .slice p19 r9.Wires.length k19] 50, Ch.own S8 (r9 : qz) [.slice p15 r9.Library.Cells.length k15, .slice p16 r9.Design.Instances.length k16, .slice p17 r9.Design.Nets.length k17, .slice p18 r9.Design.Ports.length k18, .slice p19 r9.Wires.length k19], Ch.box bb2 [.bool r7.False, .int .i64 r7.Cycles, .int .i64 r7.MaxLimit, .int .i64 r7.MinLimit] 38, Ch.own S5 (r7 : qU) [.bool r7.False, .int .i64 r7.Cycles, .int .i64 r7.MaxLimit, .int .i64 r7.MinLimit], Ch.own S3 (r5 : List Int) [.slice p14 r5.length k14], Ch.own S2 (r4 : List qe) [.slice p13 r4.length k13], Ch.own S1 (r3 : qz) [.slice p8 r3.Library.Cells.length k8, .slice p9 r3.Design.Instances.length k9, .slice p10 r3.Design.Nets.length k10, .slice p11 r3.Design.Ports.length k11, .slice p12 r3.Wires.length k12], Ch.box bb1 [.slice p1 a_0.Library.Cells.length k1, .slice p2 a_0.Design.Instances.length k2, .slice p3 a_0.Design.Nets.length k3, .slice p4 a_0.Design.Ports.length k4, .slice p5 a_0.Wires.length k5] 32] := h
 refine zNSR (zp1 rfl ?_)
 obtain ⟨r10, hr11, hF⟩ := qd hF
 refine qap r10 h call13 (qfX ⟨_, _, rfl, (h.oldS s6)⟩ hr11) rfl rfl rfl rfl ?_
 intro w13 S9 p20 k20 h
 refine zp1 rfl (zNSR (zp1 rfl ?_))
 obtain ⟨r11, hr12, hF⟩ := qd hF
 refine qap r11 h call14 (qaK ⟨_, _, rfl, (h.oldS s7)⟩ hr12) rfl rfl rfl rfl ?_
 intro w14 S10 p21 k21 h
 refine zp1 rfl (zNSR (zl 2 0 h rfl (zp2 rfl ?_)))
 obtain ⟨r12, hr13, hF⟩ := qd hF
 obtain ⟨r13, r14⟩ := r12
 refine qie (r13, r14) h call29 (qlh (h.own 3 rfl) (h.own 1 rfl) (h.own 0 rfl) hr13) rfl rfl rfl rfl ?_
 intro w15 S11 us3 hv4 hr14
 obtain ⟨S12, S13, cs7, us4, rfl, hv5, hr15⟩ := hv4.cons hr14
 obtain rfl := qge (hv5.sh.own 0 rfl)
 obtain ⟨rfl, h⟩ := hv5.lastI hr15
 refine zp3 rfl (qT qc h rfl rfl rfl ?_)
 intro w16 bb4 h
 refine zs 0 h rfl ?_
 intro w17 h
 refine zp1 rfl (zNSS ?_)
 obtain ⟨KF1, hKF1, o1, hF, hK1⟩ := bindE hF
 refine qdR (fun e w' => ∃ (b1 : Bool), KF1 b1 = some r ∧ e = [(1, .slice p6 a_1.length k6), (2, .slice p7 a_2.length k7), (3, .pointer (some ⟨bb1, 0, none⟩)), (10, .pointer (some ⟨bb3, 0, none⟩)), (11, .slice p20 r10.length k20), (12, .slice p21 r11.length k21), (59, .bool b1)] ∧ SH w w' [Ch.own S10 (r11 : List Int) [.slice p21 r11.length k21], Ch.own S9 (r10 : List qe) [.slice p20 r10.length k20], Ch.box bb3 [.slice p15 r9.Library.Cells.length k15, .slice p16 r9.Design.Instances.length k16, .slice p17 r9.Design.Nets.length k17, .slice p18 r9.Design.Ports.length k18, .slice p19 r9.Wires.length k19] 50, Ch.own S8 (r9 : qz) [.slice p15 r9.Library.Cells.length k15, .slice p16 r9.Design.Instances.length k16, .slice p17 r9.Design.Nets.length k17, .slice p18 r9.Design.Ports.length k18, .slice p19 r9.Wires.length k19], Ch.box bb1 [.slice p1 a_0.Library.Cells.length k1, .slice p2 a_0.Design.Instances.length k2, .slice p3 a_0.Design.Nets.length k3, .slice p4 a_0.Design.Ports.length k4, .slice p5 a_0.Wires.length k5] 32]) ?_ ?_
 ·refine qB (zl 0 0 h rfl (zl 6 0 h rfl ?_))
  obtain ⟨r21, hr23, hF⟩ := qd hF
  refine qm r21 h call16 (qls (h.own 1 rfl) (h.own 7 rfl) hr23) rfl rfl rfl rfl ?_
  intro w25 h
  refine zp2 rfl ?_
  by_cases hc8 : (!r21) = true
  ·replace hF := bifT hc8 hF
   refine qC hc8 (t := 55) rfl (zn3 rfl (zp1 rfl (qb ?_)))
   replace h := h.pick [2, 3, 4, 5, 11] rfl
   obtain rfl := qj hF
   exact qu [(1, _), (2, _), (3, _), (10, _), (11, _), (12, _), (59, _)] ⟨rfl, rfl, rfl, rfl, rfl, rfl, rfl, trivial⟩ ⟨_, hK1, rfl, h⟩
  replace hc8 := zb hc8
  replace hF := bifF hc8 hF
  refine qD hc8 (t := 55) rfl (qa rfl (zp1 rfl (qa rfl (zp1 rfl (qa rfl (zp2 rfl (qb ?_)))))))
  replace h := h.pick [2, 3, 4, 5, 11] rfl
  obtain rfl := qj hF
  exact qu [(1, _), (2, _), (3, _), (10, _), (11, _), (12, _), (59, _)] ⟨rfl, rfl, rfl, rfl, rfl, rfl, rfl, trivial⟩ ⟨_, hK1, rfl, h⟩
 rintro e1 w26 ⟨b1, hF, rfl, h⟩
 subst hKF1
 refine qp rfl hF ?_ ?_ <;> intro hF
 ·exact zSR (zp1 rfl (qb (qx qc h hF ⟨rfl, trivial⟩)))
 refine zKSS ?_
 refine qfO [] (fun w' => SH w w' [Ch.box bb3 [.slice p15 r9.Library.Cells.length k15, .slice p16 r9.Design.Instances.length k16, .slice p17 r9.Design.Nets.length k17, .slice p18 r9.Design.Ports.length k18, .slice p19 r9.Wires.length k19] 50, Ch.box bb1 [.slice p1 a_0.Library.Cells.length k1, .slice p2 a_0.Design.Instances.length k2, .slice p3 a_0.Design.Nets.length k3, .slice p4 a_0.Design.Ports.length k4, .slice p5 a_0.Wires.length k5] 32]) rfl 5 rfl #[ff, ff, ff, ff, ff] (by kernel_rfl) (fun w18 hb => ?_)
 replace h := h.ext hb
 clear hb
 refine qk 0 rfl #[tt, ff, ff, ff, ff] (by kernel_rfl) (by kernel_rfl) (fun w' hw => qbE qc (hw.box 0 rfl) (j := 0) rfl rfl rfl) (h.pick [2, 4] rfl) rfl ?_
 refine qk 1 rfl #[tt, tt, ff, ff, ff] (by kernel_rfl) (by kernel_rfl) (fun w' hw => qbE qc (hw.box 1 rfl) (j := 0) rfl rfl rfl) (h.pick [2, 4] rfl) rfl ?_
 refine qax 2 rfl #[tt, tt, tt, ff, ff] (by kernel_rfl) (by kernel_rfl) ?_
 obtain ⟨r15, hr17, hF⟩ := qd hF
 refine qfq r15 h call12 (qib (h.old ha1) hr17) rfl rfl rfl rfl ?_
 intro w19 S15 cs8 h
 obtain ⟨p22, k22, p23, k23, p24, k24, p25, k25, p26, k26, rfl, -, -, -, -, -⟩ := qat (h.own 0 rfl)
 refine qao (fun _ => (h.pick [3, 5] rfl)) ?_
 refine qax 3 rfl #[tt, tt, tt, tt, ff] (by kernel_rfl) (by kernel_rfl) ?_
 obtain ⟨r16, hr18, hF⟩ := qd hF
 refine qm r16 h call17 (ql2 (h.own 4 rfl) (h.own 0 rfl) hr18) rfl rfl rfl rfl ?_
 intro w20 h
 refine qao (fun _ => (h.pick [3, 5] rfl)) ?_
 refine qk 4 rfl #[tt, tt, tt, tt, tt] (by kernel_rfl) (by kernel_rfl) (fun w' hw => v_p qc rfl w') (h.pick [3, 5] rfl) rfl ?_
 refine qdn (by kernel_rfl) ?_
 refine qp rfl hF ?_ ?_ <;> intro hF
 ·exact zSR (zp1 rfl (qb (qx qc h hF ⟨rfl, trivial⟩)))
 refine zKSSR (zp2 rfl ?_)
 obtain ⟨r17, hr19, hF⟩ := qd hF
 refine qap r17 h call13 (qfX ⟨_, _, rfl, (h.oldS s6)⟩ hr19) rfl rfl rfl rfl ?_
 intro w21 S16 p27 k27 h
 obtain ⟨r18, hr20, hF⟩ := qd hF
 refine qm r18 h call18 (qj6 (h.own 3 rfl) (h.own 0 rfl) hr20) rfl rfl rfl rfl ?_
 intro w22 h
 refine zp1 rfl (qb ?_)
 refine qp rfl hF ?_ ?_ <;> intro hF
 ·exact zSR (zp1 rfl (qb (qx qc h hF ⟨rfl, trivial⟩)))
 refine zKSSR (zp2 rfl ?_)
 obtain ⟨r19, hr21, hF⟩ := qd hF
 refine qap r19 h call14 (qaK ⟨_, _, rfl, (h.oldS s7)⟩ hr21) rfl rfl rfl rfl ?_
 intro w23 S17 p28 k28 h
 obtain ⟨r20, hr22, hF⟩ := qd hF
 refine qm r20 h call19 (qa7 (h.own 3 rfl) (h.own 0 rfl) hr22) rfl rfl rfl rfl ?_
 intro w24 h
 refine zp1 rfl (qb ?_)
 refine qp rfl hF ?_ ?_ <;> intro hF
 ·exact zSR (zp1 rfl (qb (qx qc h hF ⟨rfl, trivial⟩)))
 exact zKSR (zp1 rfl (qb (qx qc h hF ⟨rfl, trivial⟩)))

end Go.Fw


namespace Go.Fw
open Go

structure qsl (x : qU) : Prop where
  False : okT x.False
  Cycles : okI x.Cycles
  MaxLimit : okI x.MaxLimit
  MinLimit : okI x.MinLimit
theorem qpS {a : qU} : Ev (fun n => qgy n a a) true := by
  unfold qgy
  exact Ev.ff qk4 (Ev.ff qbD (Ev.ff qbD (Ev.ff qbD (.done))))

end Go.Fw


namespace Go.Fw
open Go
set_option maxRecDepth 100000

theorem qpv {es : List qe} {path : List Int} (hes : okL qb0 es) (h1 : 1 ≤ path.length) (hp : path.length ≤ 1048576) : Ev (fun n => qcl es path n ([] : List Bool) 0) (pre (fun i => matchB (gt es i) path) es.length, (es.length : Int)) := by
  have hl := hes.len
  refine loopF (Lf := qcl es path) (S := pre fun i => matchB (gt es i) path) (len := es.length) (fun n => ?_) (fun j hj X hX => ?_)
  · simp only [qcl, qv (Nat.le_refl _), cond_false]
  · simp only [qcl, qt hj, cond_true, qaq hj, Option.bind_some, qq (show j < 9223372036854775807 by omega)]
    exact Ev.bind (qn4 (qig hes hj) h1 hp) (Ev.bindN (qrs (f := fun i => matchB (gt es i) path) (by omega)) hX)

theorem qo5 {es : List qe} {m m' : Nat → Bool} {j : Nat} (h : ∀ i, i < j → m i = m' i) : selE es m j = selE es m' j := by
  unfold selE selN
  congr 1
  exact List.filter_congr fun i hi => h i (List.mem_range.1 hi)

theorem qot {b : qz} {es : List qe} {path : List Int} (hok : qfG b) (hes : okL qb0 es) (hpk : okL okI path) : ∃ R : qU × Int, Ev (fun n => qgz n b es path) R ∧ Ev (fun n => qgt n b es path) R := by
  have hl := hes.len
  have hp := hpk.len
  obtain ⟨o, ev, hv⟩ := qri hok hes
  have hc := qoW hok hes
  unfold qgz qgt
  by_cases h0 : codeX b es = 0
  · obtain ⟨hb, _, hx⟩ := qoZ h0
    obtain ⟨ls, lo, de, rfl⟩ := hv h0
    rw [h0] at ev hc
    have d1 := qmj (path := path) hok hp
    have d2 := qmU (V := ⟨b, places b.Design, ls, lo, de, []⟩) (path := path) hb rfl rfl hp
    rw [hb, Bool.true_and] at d1
    cases hd : dpathB b path
    · rw [hd] at d1 d2
      exact ⟨(⟨false, 0, 0, 0⟩, 2), Ev.bind hc (Ev.ff rfl (Ev.bind d1 (Ev.tt rfl .done))), Ev.bind ev (Ev.ff rfl (Ev.bind d2 (Ev.tt rfl .done)))⟩
    · obtain ⟨h1, _⟩ := qoS hd
      rw [hd] at d1 d2
      have iE : idx path (W64 ((path.length : Int) - 1)) = some (lastP path) := by
        rw [qbX (by omega), show (path.length : Int) - 1 = ((path.length - 1 : Nat) : Int) by omega, qbp (by omega)]; rfl
      have e := qpi (tag := es.map fun e => runT e path) (p := lastP path) hes (by simp)
      rw [qo5 (m' := fun i => matchB (gt es i) path) (fun i hi => by
        show matT (gt es i) (at0 (es.map fun e => runT e path) i) (lastP path) = _
        rw [← qqY h1]
        congr 1
        simp [at0, hi, qiF hi])] at e
      exact ⟨(_, 0), Ev.bind hc (Ev.ff rfl (Ev.bind d1 (Ev.ff rfl (Ev.bind (qpv hes h1 hp) (Ev.bind (qoP (b := b) hl hx) .done))))), Ev.bind ev (Ev.ff rfl (Ev.bind d2 (Ev.ff rfl (Ev.bindN iE (Ev.bind (qqJ hes h1 hp) (Ev.bind e .done))))))⟩
  · have hne : (codeX b es != 0) = true := by simpa using h0
    exact ⟨(⟨false, 0, 0, 0⟩, codeX b es), Ev.bind hc (Ev.tt hne .done), Ev.bind ev (Ev.tt hne .done)⟩

theorem qkl {b : qz} {es : (List qe)} {path : (List Int)} (h0 : qkf b) (h1 : (rngL qe0) es) (h2 : (rngL rngI) path) : Ev (fun n => qeW n b es path) true := by
  unfold qeW
  refine Ev.bif (fun _ => .done) (fun hl => ?_)
  have hl2 : path.length ≤ 1048576 := by have := of_decide_eq_false hl; omega
  obtain ⟨r1, e1, q1⟩ := qq1 (a := b) (left := 1048576) h0 (by omega) (by omega)
  refine Ev.bind e1 ?_
  rcases q1 with q1 | ⟨p1, q1⟩
  · exact Ev.tt (by simpa using q1) .done
  refine Ev.ff (by simp; omega) ?_
  obtain ⟨r2, e2, q2⟩ := qm5 (a := es) (left := r1) h1 p1 (by omega)
  refine Ev.bind e2 ?_
  rcases q2 with q2 | ⟨p2, q2⟩
  · exact Ev.tt (by simpa using q2) .done
  refine Ev.ff (by simp; omega) ?_
  have w0 : qht b ≤ 1048576 := by omega
  have k0 := qo2 h0 w0
  have w1 : qc8 es ≤ 1048576 := by omega
  have k1 := ql3 h1 w1
  have w2 : qcx path ≤ 1048576 := by unfold qcx; omega
  have k2 := qcL h2 w2
  obtain ⟨⟨R0, R1⟩, hs, hi⟩ := qot (b := b) (es := es) (path := path) k0 k1 k2
  refine Ev.bind (qml w0) ?_
  refine Ev.bind (qiX w1) ?_
  refine Ev.bind (qdr w2) ?_
  refine Ev.bind hs ?_
  refine Ev.bind (qml w0) ?_
  refine Ev.bind (qiX w1) ?_
  refine Ev.bind (qdr w2) ?_
  refine Ev.bind hi ?_
  refine Ev.bind (b := false) (Ev.bind (qpS) (Ev.ff rfl (Ev.now (by simp)))) (Ev.ff rfl ?_)
  refine Ev.bind (qml w0) ?_
  refine Ev.bind (qrl w0) (Ev.ff rfl ?_)
  refine Ev.bind (qiX w1) ?_
  refine Ev.bind (qmT w1) (Ev.ff rfl ?_)
  refine Ev.bind (qdr w2) ?_
  refine Ev.bind (qee w2) (Ev.ff rfl ?_)
  exact .done

end Go.Fw
