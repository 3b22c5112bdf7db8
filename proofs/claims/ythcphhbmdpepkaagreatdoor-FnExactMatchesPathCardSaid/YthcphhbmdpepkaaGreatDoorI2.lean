/- By a program of mine (gen.py): for each function a plain function and the proof that the code computes it. -/
import Derived.Test.YthcphhbmdpepkaaGreatDoorE2

namespace Go.Fw
open Go Go.Proofs
open Go.RowKit (Below)
set_option maxRecDepth 100000
def qdk (list : (List Int)) (x : Int) : Nat → Int → Option (Flow Int Int)
 | 0, _ => none
 | n + 1, i1 =>
  bif decide (i1 < (list.length : Int)) then
   (idx list i1).bind fun y1 =>
   bif (y1 == x) then
    some (.ret i1)
   else
    qdk list x n (W64 (i1 + 1))
  else
   some (.nxt i1)

def qee (n : Nat) (list : (List Int)) (x : Int) : Option Int :=
 (qdk list x n 0).bind fun o => match o with
 | .ret r => some r
 | .nxt _ =>
  some (-1)

theorem qgL {n : Nat} {w : World} {list : (List Int)} {x : Int} {cs1 : List Value} (ha1 : GoT.R w (old w) list cs1) {r : Int} (hF : qee n list x = some r) : RetV Tryz.prog 111 [GoT.v (List Int) cs1, .int .i64 x] w r := by
 obtain ⟨p1, k1, rfl, s1⟩ := ha1
 refine qe Tryz.func111 rfl (m := 19) rfl rfl (fun h => ?_)
 rw [qee] at hF
 refine zSR (zp1 rfl (zNSSR (zp1 rfl (qb ?_))))
 obtain ⟨o1, hF, hK1⟩ := qd hF
 refine qz (qT [(0, _), (1, _), (5, _)] ⟨rfl, rfl, rfl, trivial⟩ ?_)
 refine qH (fun m e w' => ∃ (i1 : Int), qdk list x m i1 = some o1 ∧ e = [(0, .slice p1 list.length k1), (1, .int .i64 x), (5, .int .i64 i1)] ∧ SH w w' []) n ⟨_, hF, rfl, h⟩ ?_
 rintro m1 e1 w1 ⟨i1, hF, rfl, h⟩
 rcases m1 with _ | m1
 ·rw [qdk] at hF
  cases hF
 rw [qdk] at hF
 refine zSSR (zp4 rfl (qb ?_))
 refine qq rfl hF ?_ ?_ <;> intro hF
 ·refine zKSBSR (zp2 rfl ?_)
  obtain ⟨y1, hy1, hF⟩ := qd hF
  have he1 := qg hy1
  obtain ⟨b1, o_1, q1, cs2, hp1, hq1, -, hr1, hc2⟩ := s1.at hy1
  obtain rfl := hr1
  refine zxe hp1 hq1 he1 rfl (zc 0 (hc2.below h.below) rfl (zp2 rfl (qb ?_)))
  refine qq rfl hF ?_ ?_ <;> intro hF
  ·refine zSR (zp2 rfl (qb ?_))
   obtain rfl := qj hF; replace hF := hK1
   exact qaB qc h hF ⟨rfl, trivial⟩
  exact zKER (zp3 rfl (qb (qA m1 [(0, _), (1, _), (5, _)] (Nat.lt_succ_self m1) ⟨rfl, rfl, rfl, trivial⟩ ⟨_, hF, rfl, h⟩)))
 refine qI rfl ?_
 obtain rfl := qj hF; replace hF := hK1
 exact zSR (zp1 rfl (qb (qaB qc h hF ⟨rfl, trivial⟩)))

def qbi (b : qy) (path : (List Int)) : Nat → Int → Option (Flow Bool Int)
 | 0, _ => none
 | n + 1, i1 =>
  bif decide (i1 < (path.length : Int)) then
   (idx path i1).bind fun y1 =>
   (qdI n b).bind fun r1 =>
   (qam n y1 0 (W64 (r1 - 1))).bind fun r2 =>
   bif (!r2) then
    some (.ret false)
   else
    bif decide (i1 > 0) then
     (idx path (W64 (i1 - 1))).bind fun y2 =>
     (idx path i1).bind fun y3 =>
     (qf0 n b y2).bind fun r3 =>
     (qee n r3 y3).bind fun r4 =>
     bif decide (r4 < 0) then
      some (.ret false)
     else
      qbi b path n (W64 (i1 + 1))
    else
     qbi b path n (W64 (i1 + 1))
  else
   some (.nxt i1)

def qe8 (n : Nat) (b : qy) (path : (List Int)) : Option Bool :=
 (
  (qfH n b).bind fun r5 =>
  bif (!r5) then
   some true
  else
   bif decide ((path.length : Int) < 1) then
    some true
   else
    some (decide ((path.length : Int) > 60))).bind fun b1 =>
 bif b1 then
  some false
 else
  (qbi b path n 0).bind fun o => match o with
  | .ret r => some r
  | .nxt _ =>
   some true

theorem qjW {n : Nat} {w : World} {b : qy} {path : (List Int)} {cs1 : List Value} (ha1 : GoT.R w (old w) b cs1) {cs2 : List Value} (ha2 : GoT.R w (old w) path cs2) {r : Bool} (hF : qe8 n b path = some r) : RetV Tryz.prog 57 [GoT.v qy cs1, GoT.v (List Int) cs2] w r := by
 obtain ⟨p1, k1, p2, k2, p3, k3, p4, k4, p5, k5, rfl, s1, s2, s3, s4, s5⟩ := qas ha1
 obtain ⟨p6, k6, rfl, s6⟩ := ha2
 refine qe Tryz.func57 rfl (m := 53) rfl rfl (fun h => ?_)
 rw [qe8] at hF
 refine zSR (qM h rfl rfl ?_)
 intro w1 bb1 h
 refine zp1 rfl (zNSS ?_)
 obtain ⟨KF1, hKF1, o2, hF, hK2⟩ := bindE hF
 refine qem (fun e w' => ∃ (b1 : Bool), KF1 b1 = some r ∧ e = [(1, .slice p6 path.length k6), (2, .pointer (some ⟨bb1, 0, none⟩)), (18, .bool b1)] ∧ SH w w' [Ch.box bb1 [.slice p1 b.Library.Cells.length k1, .slice p2 b.Design.Instances.length k2, .slice p3 b.Design.Nets.length k3, .slice p4 b.Design.Ports.length k4, .slice p5 b.Wires.length k5] 48]) ?_ ?_
 ·refine qE (zl 0 0 h rfl ?_)
  obtain ⟨r5, hr8, hF⟩ := qd hF
  refine ql r5 h call33 (qiQ (h.old ha1) hr8) rfl rfl rfl rfl ?_
  intro w8 h
  refine zp2 rfl ?_
  by_cases hc9 : (!r5) = true
  ·replace hF := bifT hc9 hF
   refine qC hc9 (t := 9) rfl (zn3 rfl (zp2 rfl (zn3 rfl (zp1 rfl (qb ?_)))))
   obtain rfl := qj hF
   exact qx [(1, _), (2, _), (18, _)] ⟨rfl, rfl, rfl, trivial⟩ ⟨_, hK2, rfl, h⟩
  replace hc9 := zb hc9
  replace hF := bifF hc9 hF
  refine qB hc9 (t := 9) rfl (qa rfl (zp1 rfl (qa rfl (zp1 rfl (qa rfl (zp3 rfl ?_))))))
  by_cases hc10 : (decide ((path.length : Int) < 1)) = true
  ·replace hF := bifT hc10 hF
   refine qC hc10 (t := 14) rfl (zn3 rfl (zp1 rfl (qb ?_)))
   obtain rfl := qj hF
   exact qx [(1, _), (2, _), (18, _)] ⟨rfl, rfl, rfl, trivial⟩ ⟨_, hK2, rfl, h⟩
  replace hc10 := zb hc10
  replace hF := bifF hc10 hF
  refine qB hc10 (t := 14) rfl (qa rfl (zp1 rfl (qa rfl (zp1 rfl (qa rfl (zp2 rfl (qb ?_)))))))
  obtain rfl := qj hF
  exact qx [(1, _), (2, _), (18, _)] ⟨rfl, rfl, rfl, trivial⟩ ⟨_, hK2, rfl, h⟩
 rintro e2 w9 ⟨b1, hF, rfl, h⟩
 subst hKF1
 refine qq rfl hF ?_ ?_ <;> intro hF
 ·exact zSR (zp1 rfl (qb (qu qc h hF ⟨rfl, trivial⟩)))
 refine zKSSR (zp1 rfl (qb ?_))
 obtain ⟨o1, hF, hK1⟩ := qd hF
 refine qz (qT [(1, _), (2, _), (5, _)] ⟨rfl, rfl, rfl, trivial⟩ ?_)
 refine qH (fun m e w' => ∃ (i1 : Int), qbi b path m i1 = some o1 ∧ e = [(1, .slice p6 path.length k6), (2, .pointer (some ⟨bb1, 0, none⟩)), (5, .int .i64 i1)] ∧ SH w w' [Ch.box bb1 [.slice p1 b.Library.Cells.length k1, .slice p2 b.Design.Instances.length k2, .slice p3 b.Design.Nets.length k3, .slice p4 b.Design.Ports.length k4, .slice p5 b.Wires.length k5] 48]) n ⟨_, hF, rfl, h⟩ ?_
 rintro m1 e1 w2 ⟨i1, hF, rfl, h⟩
 rcases m1 with _ | m1
 ·rw [qbi] at hF
  cases hF
 rw [qbi] at hF
 refine zSSR (zp4 rfl (qb ?_))
 refine qq rfl hF ?_ ?_ <;> intro hF
 ·refine zKSB (qbn ?_)
  refine qeO [] (fun w' => SH w w' [Ch.box bb1 [.slice p1 b.Library.Cells.length k1, .slice p2 b.Design.Instances.length k2, .slice p3 b.Design.Nets.length k3, .slice p4 b.Design.Ports.length k4, .slice p5 b.Wires.length k5] 48]) rfl 28 rfl #[ff, ff, ff, ff, ff, ff, ff, ff, ff, ff, ff, ff, ff, ff, ff, ff, ff, ff, ff, ff, ff, ff, ff, ff, ff, ff, ff, ff] (by kernel_rfl) (fun w3 hb => ?_)
  replace h := h.ext hb
  clear hb
  refine qi 0 rfl #[tt, ff, ff, ff, ff, ff, ff, ff, ff, ff, ff, ff, ff, ff, ff, ff, ff, ff, ff, ff, ff, ff, ff, ff, ff, ff, ff, ff] (by kernel_rfl) (by kernel_rfl) (fun w' hw => v_p qc rfl w') (h.pick [0] rfl) rfl ?_
  refine qi 1 rfl #[tt, tt, ff, ff, ff, ff, ff, ff, ff, ff, ff, ff, ff, ff, ff, ff, ff, ff, ff, ff, ff, ff, ff, ff, ff, ff, ff, ff] (by kernel_rfl) (by kernel_rfl) (fun w' hw => v_p qc rfl w') (h.pick [0] rfl) rfl ?_
  obtain ⟨y1, hy1, hF⟩ := qd hF
  have he1 := qg hy1
  obtain ⟨b2, o_1, q1, cs3, hp1, hq1, -, hr1, hc3⟩ := s6.at hy1
  obtain rfl := hr1
  refine qi 2 rfl #[tt, tt, tt, ff, ff, ff, ff, ff, ff, ff, ff, ff, ff, ff, ff, ff, ff, ff, ff, ff, ff, ff, ff, ff, ff, ff, ff, ff] (by kernel_rfl) (by kernel_rfl) (fun w' hw => qe3 qc hp1 hq1 ⟨he1.1, he1.2.1⟩ rfl rfl rfl rfl rfl rfl) (h.pick [0] rfl) rfl ?_
  refine qi 3 rfl #[tt, tt, tt, tt, ff, ff, ff, ff, ff, ff, ff, ff, ff, ff, ff, ff, ff, ff, ff, ff, ff, ff, ff, ff, ff, ff, ff, ff] (by kernel_rfl) (by kernel_rfl) (fun w' hw => qbj qc (hc3.below hw.below) (j := 0) rfl rfl rfl) (h.pick [0] rfl) rfl ?_
  refine qi 4 rfl #[tt, tt, tt, tt, tt, ff, ff, ff, ff, ff, ff, ff, ff, ff, ff, ff, ff, ff, ff, ff, ff, ff, ff, ff, ff, ff, ff, ff] (by kernel_rfl) (by kernel_rfl) (fun w' hw => qbj qc (hw.box 0 rfl) (j := 0) rfl rfl rfl) (h.pick [0] rfl) rfl ?_
  refine qab 5 rfl #[tt, tt, tt, tt, tt, tt, ff, ff, ff, ff, ff, ff, ff, ff, ff, ff, ff, ff, ff, ff, ff, ff, ff, ff, ff, ff, ff, ff] (by kernel_rfl) (by kernel_rfl) ?_
  obtain ⟨r1, hr2, hF⟩ := qd hF
  refine qQ r1 h call48 (qiq (h.old ha1) hr2) rfl rfl rfl rfl ?_
  intro w4 h
  refine qW (fun _ => (h.pick [0] rfl)) ?_
  refine qi 6 rfl #[tt, tt, tt, tt, tt, tt, tt, ff, ff, ff, ff, ff, ff, ff, ff, ff, ff, ff, ff, ff, ff, ff, ff, ff, ff, ff, ff, ff] (by kernel_rfl) (by kernel_rfl) (fun w' hw => v_p qc rfl w') (h.pick [0] rfl) rfl ?_
  refine qab 7 rfl #[tt, tt, tt, tt, tt, tt, tt, tt, ff, ff, ff, ff, ff, ff, ff, ff, ff, ff, ff, ff, ff, ff, ff, ff, ff, ff, ff, ff] (by kernel_rfl) (by kernel_rfl) ?_
  obtain ⟨r2, hr3, hF⟩ := qd hF
  refine ql r2 h call35 (qaf hr3) rfl rfl rfl rfl ?_
  intro w5 h
  refine qW (fun _ => (h.pick [0] rfl)) ?_
  refine qi 8 rfl #[tt, tt, tt, tt, tt, tt, tt, tt, tt, ff, ff, ff, ff, ff, ff, ff, ff, ff, ff, ff, ff, ff, ff, ff, ff, ff, ff, ff] (by kernel_rfl) (by kernel_rfl) (fun w' hw => v_p qc rfl w') (h.pick [0] rfl) rfl ?_
  refine qi 9 rfl #[tt, tt, tt, tt, tt, tt, tt, tt, tt, tt, ff, ff, ff, ff, ff, ff, ff, ff, ff, ff, ff, ff, ff, ff, ff, ff, ff, ff] (by kernel_rfl) (by kernel_rfl) (fun w' hw => v_p qc rfl w') (h.pick [0] rfl) rfl ?_
  by_cases hc4 : (!r2) = true
  ·replace hF := bifT hc4 hF
   refine qlx hc4 (t := 34) rfl ?_
   refine qaF 10 rfl (by kernel_rfl) rfl #[tt, tt, tt, tt, tt, tt, tt, tt, tt, tt, tt, ff, ff, ff, ff, ff, ff, ff, ff, ff, ff, ff, ff, ff, ff, ff, ff, ff] (by kernel_rfl) (by kernel_rfl) (h.pick [0] rfl) rfl ?_
   refine qaF 11 rfl (by kernel_rfl) rfl #[tt, tt, tt, tt, tt, tt, tt, tt, tt, tt, tt, tt, ff, ff, ff, ff, ff, ff, ff, ff, ff, ff, ff, ff, ff, ff, ff, ff] (by kernel_rfl) (by kernel_rfl) (h.pick [0] rfl) rfl ?_
   refine qaF 12 rfl (by kernel_rfl) rfl #[tt, tt, tt, tt, tt, tt, tt, tt, tt, tt, tt, tt, tt, ff, ff, ff, ff, ff, ff, ff, ff, ff, ff, ff, ff, ff, ff, ff] (by kernel_rfl) (by kernel_rfl) (h.pick [0] rfl) rfl ?_
   refine qaF 13 rfl (by kernel_rfl) rfl #[tt, tt, tt, tt, tt, tt, tt, tt, tt, tt, tt, tt, tt, tt, ff, ff, ff, ff, ff, ff, ff, ff, ff, ff, ff, ff, ff, ff] (by kernel_rfl) (by kernel_rfl) (h.pick [0] rfl) rfl ?_
   refine qaF 14 rfl (by kernel_rfl) rfl #[tt, tt, tt, tt, tt, tt, tt, tt, tt, tt, tt, tt, tt, tt, tt, ff, ff, ff, ff, ff, ff, ff, ff, ff, ff, ff, ff, ff] (by kernel_rfl) (by kernel_rfl) (h.pick [0] rfl) rfl ?_
   refine qaF 15 rfl (by kernel_rfl) rfl #[tt, tt, tt, tt, tt, tt, tt, tt, tt, tt, tt, tt, tt, tt, tt, tt, ff, ff, ff, ff, ff, ff, ff, ff, ff, ff, ff, ff] (by kernel_rfl) (by kernel_rfl) (h.pick [0] rfl) rfl ?_
   refine qaF 16 rfl (by kernel_rfl) rfl #[tt, tt, tt, tt, tt, tt, tt, tt, tt, tt, tt, tt, tt, tt, tt, tt, tt, ff, ff, ff, ff, ff, ff, ff, ff, ff, ff, ff] (by kernel_rfl) (by kernel_rfl) (h.pick [0] rfl) rfl ?_
   refine qaF 17 rfl (by kernel_rfl) rfl #[tt, tt, tt, tt, tt, tt, tt, tt, tt, tt, tt, tt, tt, tt, tt, tt, tt, tt, ff, ff, ff, ff, ff, ff, ff, ff, ff, ff] (by kernel_rfl) (by kernel_rfl) (h.pick [0] rfl) rfl ?_
   refine qaF 18 rfl (by kernel_rfl) rfl #[tt, tt, tt, tt, tt, tt, tt, tt, tt, tt, tt, tt, tt, tt, tt, tt, tt, tt, tt, ff, ff, ff, ff, ff, ff, ff, ff, ff] (by kernel_rfl) (by kernel_rfl) (h.pick [0] rfl) rfl ?_
   refine qaF 19 rfl (by kernel_rfl) rfl #[tt, tt, tt, tt, tt, tt, tt, tt, tt, tt, tt, tt, tt, tt, tt, tt, tt, tt, tt, tt, ff, ff, ff, ff, ff, ff, ff, ff] (by kernel_rfl) (by kernel_rfl) (h.pick [0] rfl) rfl ?_
   refine qaF 20 rfl (by kernel_rfl) rfl #[tt, tt, tt, tt, tt, tt, tt, tt, tt, tt, tt, tt, tt, tt, tt, tt, tt, tt, tt, tt, tt, ff, ff, ff, ff, ff, ff, ff] (by kernel_rfl) (by kernel_rfl) (h.pick [0] rfl) rfl ?_
   refine qaF 21 rfl (by kernel_rfl) rfl #[tt, tt, tt, tt, tt, tt, tt, tt, tt, tt, tt, tt, tt, tt, tt, tt, tt, tt, tt, tt, tt, tt, ff, ff, ff, ff, ff, ff] (by kernel_rfl) (by kernel_rfl) (h.pick [0] rfl) rfl ?_
   refine qaF 22 rfl (by kernel_rfl) rfl #[tt, tt, tt, tt, tt, tt, tt, tt, tt, tt, tt, tt, tt, tt, tt, tt, tt, tt, tt, tt, tt, tt, tt, ff, ff, ff, ff, ff] (by kernel_rfl) (by kernel_rfl) (h.pick [0] rfl) rfl ?_
   refine qaF 23 rfl (by kernel_rfl) rfl #[tt, tt, tt, tt, tt, tt, tt, tt, tt, tt, tt, tt, tt, tt, tt, tt, tt, tt, tt, tt, tt, tt, tt, tt, ff, ff, ff, ff] (by kernel_rfl) (by kernel_rfl) (h.pick [0] rfl) rfl ?_
   refine qaF 24 rfl (by kernel_rfl) rfl #[tt, tt, tt, tt, tt, tt, tt, tt, tt, tt, tt, tt, tt, tt, tt, tt, tt, tt, tt, tt, tt, tt, tt, tt, tt, ff, ff, ff] (by kernel_rfl) (by kernel_rfl) (h.pick [0] rfl) rfl ?_
   refine qaF 25 rfl (by kernel_rfl) rfl #[tt, tt, tt, tt, tt, tt, tt, tt, tt, tt, tt, tt, tt, tt, tt, tt, tt, tt, tt, tt, tt, tt, tt, tt, tt, tt, ff, ff] (by kernel_rfl) (by kernel_rfl) (h.pick [0] rfl) rfl ?_
   refine qaF 26 rfl (by kernel_rfl) rfl #[tt, tt, tt, tt, tt, tt, tt, tt, tt, tt, tt, tt, tt, tt, tt, tt, tt, tt, tt, tt, tt, tt, tt, tt, tt, tt, tt, ff] (by kernel_rfl) (by kernel_rfl) (h.pick [0] rfl) rfl ?_
   refine qi 27 rfl #[tt, tt, tt, tt, tt, tt, tt, tt, tt, tt, tt, tt, tt, tt, tt, tt, tt, tt, tt, tt, tt, tt, tt, tt, tt, tt, tt, tt] (by kernel_rfl) (by kernel_rfl) (fun w' hw => v_p qc rfl w') (h.pick [0] rfl) rfl ?_
   refine qcp (by kernel_rfl) ?_
   refine qef rfl rfl (zSR (zp1 rfl (qb ?_)))
   obtain rfl := qj hF; replace hF := hK1
   exact qu qc h hF ⟨rfl, trivial⟩
  replace hc4 := zb hc4
  replace hF := bifF hc4 hF
  refine qlo hc4 (t := 34) rfl ?_
  refine qbc 10 rfl (by kernel_rfl) #[tt, tt, tt, tt, tt, tt, tt, tt, tt, tt, tt, ff, ff, ff, ff, ff, ff, ff, ff, ff, ff, ff, ff, ff, ff, ff, ff, ff] (by kernel_rfl) (by kernel_rfl) (fun w' hw => v_p qc rfl w') (h.pick [0] rfl) rfl ?_
  refine qbc 11 rfl (by kernel_rfl) #[tt, tt, tt, tt, tt, tt, tt, tt, tt, tt, tt, tt, ff, ff, ff, ff, ff, ff, ff, ff, ff, ff, ff, ff, ff, ff, ff, ff] (by kernel_rfl) (by kernel_rfl) (fun w' hw => v_p qc rfl w') (h.pick [0] rfl) rfl ?_
  refine qbc 12 rfl (by kernel_rfl) #[tt, tt, tt, tt, tt, tt, tt, tt, tt, tt, tt, tt, tt, ff, ff, ff, ff, ff, ff, ff, ff, ff, ff, ff, ff, ff, ff, ff] (by kernel_rfl) (by kernel_rfl) (fun w' hw => v_p qc rfl w') (h.pick [0] rfl) rfl ?_
  by_cases hc5 : (decide (i1 > 0)) = true
  ·replace hF := bifT hc5 hF
   refine qlx hc5 (t := 37) rfl ?_
   refine qbc 13 rfl (by kernel_rfl) #[tt, tt, tt, tt, tt, tt, tt, tt, tt, tt, tt, tt, tt, tt, ff, ff, ff, ff, ff, ff, ff, ff, ff, ff, ff, ff, ff, ff] (by kernel_rfl) (by kernel_rfl) (fun w' hw => qbj qc (hw.box 0 rfl) (j := 0) rfl rfl rfl) (h.pick [0] rfl) rfl ?_
   refine qbc 14 rfl (by kernel_rfl) #[tt, tt, tt, tt, tt, tt, tt, tt, tt, tt, tt, tt, tt, tt, tt, ff, ff, ff, ff, ff, ff, ff, ff, ff, ff, ff, ff, ff] (by kernel_rfl) (by kernel_rfl) (fun w' hw => v_p qc rfl w') (h.pick [0] rfl) rfl ?_
   refine qbc 15 rfl (by kernel_rfl) #[tt, tt, tt, tt, tt, tt, tt, tt, tt, tt, tt, tt, tt, tt, tt, tt, ff, ff, ff, ff, ff, ff, ff, ff, ff, ff, ff, ff] (by kernel_rfl) (by kernel_rfl) (fun w' hw => v_p qc rfl w') (h.pick [0] rfl) rfl ?_
   refine qbc 16 rfl (by kernel_rfl) #[tt, tt, tt, tt, tt, tt, tt, tt, tt, tt, tt, tt, tt, tt, tt, tt, tt, ff, ff, ff, ff, ff, ff, ff, ff, ff, ff, ff] (by kernel_rfl) (by kernel_rfl) (fun w' hw => v_p qc rfl w') (h.pick [0] rfl) rfl ?_
   obtain ⟨y2, hy2, hF⟩ := qd hF
   have he2 := qg hy2
   obtain ⟨b3, o_2, q2, cs4, hp2, hq2, -, hr4, hc6⟩ := s6.at hy2
   obtain rfl := hr4
   refine qbc 17 rfl (by kernel_rfl) #[tt, tt, tt, tt, tt, tt, tt, tt, tt, tt, tt, tt, tt, tt, tt, tt, tt, tt, ff, ff, ff, ff, ff, ff, ff, ff, ff, ff] (by kernel_rfl) (by kernel_rfl) (fun w' hw => qe3 qc hp2 hq2 ⟨he2.1, he2.2.1⟩ rfl rfl rfl rfl rfl rfl) (h.pick [0] rfl) rfl ?_
   refine qbc 18 rfl (by kernel_rfl) #[tt, tt, tt, tt, tt, tt, tt, tt, tt, tt, tt, tt, tt, tt, tt, tt, tt, tt, tt, ff, ff, ff, ff, ff, ff, ff, ff, ff] (by kernel_rfl) (by kernel_rfl) (fun w' hw => qbj qc (hc6.below hw.below) (j := 0) rfl rfl rfl) (h.pick [0] rfl) rfl ?_
   refine qbc 20 rfl (by kernel_rfl) #[tt, tt, tt, tt, tt, tt, tt, tt, tt, tt, tt, tt, tt, tt, tt, tt, tt, tt, tt, ff, tt, ff, ff, ff, ff, ff, ff, ff] (by kernel_rfl) (by kernel_rfl) (fun w' hw => v_p qc rfl w') (h.pick [0] rfl) rfl ?_
   refine qbc 21 rfl (by kernel_rfl) #[tt, tt, tt, tt, tt, tt, tt, tt, tt, tt, tt, tt, tt, tt, tt, tt, tt, tt, tt, ff, tt, tt, ff, ff, ff, ff, ff, ff] (by kernel_rfl) (by kernel_rfl) (fun w' hw => v_p qc rfl w') (h.pick [0] rfl) rfl ?_
   obtain ⟨y3, hy3, hF⟩ := qd hF
   have he3 := qg hy3
   obtain ⟨b4, o_3, q3, cs5, hp3, hq3, -, hr5, hc7⟩ := s6.at hy3
   obtain rfl := hr5
   refine qbc 22 rfl (by kernel_rfl) #[tt, tt, tt, tt, tt, tt, tt, tt, tt, tt, tt, tt, tt, tt, tt, tt, tt, tt, tt, ff, tt, tt, tt, ff, ff, ff, ff, ff] (by kernel_rfl) (by kernel_rfl) (fun w' hw => qe3 qc hp3 hq3 ⟨he3.1, he3.2.1⟩ rfl rfl rfl rfl rfl rfl) (h.pick [0] rfl) rfl ?_
   refine qbc 23 rfl (by kernel_rfl) #[tt, tt, tt, tt, tt, tt, tt, tt, tt, tt, tt, tt, tt, tt, tt, tt, tt, tt, tt, ff, tt, tt, tt, tt, ff, ff, ff, ff] (by kernel_rfl) (by kernel_rfl) (fun w' hw => qbj qc (hc7.below hw.below) (j := 0) rfl rfl rfl) (h.pick [0] rfl) rfl ?_
   refine qab 19 rfl #[tt, tt, tt, tt, tt, tt, tt, tt, tt, tt, tt, tt, tt, tt, tt, tt, tt, tt, tt, tt, tt, tt, tt, tt, ff, ff, ff, ff] (by kernel_rfl) (by kernel_rfl) ?_
   refine qa rfl ?_
   obtain ⟨r3, hr6, hF⟩ := qd hF
   refine qak r3 h call50 (qkm (h.old ha1) hr6) rfl rfl rfl rfl ?_
   intro w6 S1 p7 k7 h
   refine qW (fun _ => (h.pick [1] rfl)) ?_
   refine qab 24 rfl #[tt, tt, tt, tt, tt, tt, tt, tt, tt, tt, tt, tt, tt, tt, tt, tt, tt, tt, tt, tt, tt, tt, tt, tt, tt, ff, ff, ff] (by kernel_rfl) (by kernel_rfl) ?_
   refine qa rfl ?_
   obtain ⟨r4, hr7, hF⟩ := qd hF
   refine qQ r4 h call111 (qgL (h.own 0 rfl) hr7) rfl rfl rfl rfl ?_
   intro w7 h
   refine qW (fun _ => (h.pick [1] rfl)) ?_
   refine qbc 25 rfl (by kernel_rfl) #[tt, tt, tt, tt, tt, tt, tt, tt, tt, tt, tt, tt, tt, tt, tt, tt, tt, tt, tt, tt, tt, tt, tt, tt, tt, tt, ff, ff] (by kernel_rfl) (by kernel_rfl) (fun w' hw => v_p qc rfl w') (h.pick [1] rfl) rfl ?_
   refine qbc 26 rfl (by kernel_rfl) #[tt, tt, tt, tt, tt, tt, tt, tt, tt, tt, tt, tt, tt, tt, tt, tt, tt, tt, tt, tt, tt, tt, tt, tt, tt, tt, tt, ff] (by kernel_rfl) (by kernel_rfl) (fun w' hw => v_p qc rfl w') (h.pick [1] rfl) rfl ?_
   refine qi 27 rfl #[tt, tt, tt, tt, tt, tt, tt, tt, tt, tt, tt, tt, tt, tt, tt, tt, tt, tt, tt, tt, tt, tt, tt, tt, tt, tt, tt, tt] (by kernel_rfl) (by kernel_rfl) (fun w' hw => v_p qc rfl w') (h.pick [1] rfl) rfl ?_
   refine qcp (by kernel_rfl) ?_
   refine qq rfl hF ?_ ?_ <;> intro hF
   ·refine zSR (zp1 rfl (qb ?_))
    obtain rfl := qj hF; replace hF := hK1
    exact qu qc h hF ⟨rfl, trivial⟩
   refine zKER (zp3 rfl (qb ?_))
   replace h := h.pick [1] rfl
   exact qA m1 [(1, _), (2, _), (5, _)] (Nat.lt_succ_self m1) ⟨rfl, rfl, rfl, trivial⟩ ⟨_, hF, rfl, h⟩
  replace hc5 := zb hc5
  replace hF := bifF hc5 hF
  refine qlo hc5 (t := 37) rfl ?_
  refine qaF 13 rfl (by kernel_rfl) rfl #[tt, tt, tt, tt, tt, tt, tt, tt, tt, tt, tt, tt, tt, tt, ff, ff, ff, ff, ff, ff, ff, ff, ff, ff, ff, ff, ff, ff] (by kernel_rfl) (by kernel_rfl) (h.pick [0] rfl) rfl ?_
  refine qaF 14 rfl (by kernel_rfl) rfl #[tt, tt, tt, tt, tt, tt, tt, tt, tt, tt, tt, tt, tt, tt, tt, ff, ff, ff, ff, ff, ff, ff, ff, ff, ff, ff, ff, ff] (by kernel_rfl) (by kernel_rfl) (h.pick [0] rfl) rfl ?_
  refine qaF 15 rfl (by kernel_rfl) rfl #[tt, tt, tt, tt, tt, tt, tt, tt, tt, tt, tt, tt, tt, tt, tt, tt, ff, ff, ff, ff, ff, ff, ff, ff, ff, ff, ff, ff] (by kernel_rfl) (by kernel_rfl) (h.pick [0] rfl) rfl ?_
  refine qaF 16 rfl (by kernel_rfl) rfl #[tt, tt, tt, tt, tt, tt, tt, tt, tt, tt, tt, tt, tt, tt, tt, tt, tt, ff, ff, ff, ff, ff, ff, ff, ff, ff, ff, ff] (by kernel_rfl) (by kernel_rfl) (h.pick [0] rfl) rfl ?_
  refine qaF 17 rfl (by kernel_rfl) rfl #[tt, tt, tt, tt, tt, tt, tt, tt, tt, tt, tt, tt, tt, tt, tt, tt, tt, tt, ff, ff, ff, ff, ff, ff, ff, ff, ff, ff] (by kernel_rfl) (by kernel_rfl) (h.pick [0] rfl) rfl ?_
  refine qaF 18 rfl (by kernel_rfl) rfl #[tt, tt, tt, tt, tt, tt, tt, tt, tt, tt, tt, tt, tt, tt, tt, tt, tt, tt, tt, ff, ff, ff, ff, ff, ff, ff, ff, ff] (by kernel_rfl) (by kernel_rfl) (h.pick [0] rfl) rfl ?_
  refine qaF 19 rfl (by kernel_rfl) rfl #[tt, tt, tt, tt, tt, tt, tt, tt, tt, tt, tt, tt, tt, tt, tt, tt, tt, tt, tt, tt, ff, ff, ff, ff, ff, ff, ff, ff] (by kernel_rfl) (by kernel_rfl) (h.pick [0] rfl) rfl ?_
  refine qaF 20 rfl (by kernel_rfl) rfl #[tt, tt, tt, tt, tt, tt, tt, tt, tt, tt, tt, tt, tt, tt, tt, tt, tt, tt, tt, tt, tt, ff, ff, ff, ff, ff, ff, ff] (by kernel_rfl) (by kernel_rfl) (h.pick [0] rfl) rfl ?_
  refine qaF 21 rfl (by kernel_rfl) rfl #[tt, tt, tt, tt, tt, tt, tt, tt, tt, tt, tt, tt, tt, tt, tt, tt, tt, tt, tt, tt, tt, tt, ff, ff, ff, ff, ff, ff] (by kernel_rfl) (by kernel_rfl) (h.pick [0] rfl) rfl ?_
  refine qaF 22 rfl (by kernel_rfl) rfl #[tt, tt, tt, tt, tt, tt, tt, tt, tt, tt, tt, tt, tt, tt, tt, tt, tt, tt, tt, tt, tt, tt, tt, ff, ff, ff, ff, ff] (by kernel_rfl) (by kernel_rfl) (h.pick [0] rfl) rfl ?_
  refine qaF 23 rfl (by kernel_rfl) rfl #[tt, tt, tt, tt, tt, tt, tt, tt, tt, tt, tt, tt, tt, tt, tt, tt, tt, tt, tt, tt, tt, tt, tt, tt, ff, ff, ff, ff] (by kernel_rfl) (by kernel_rfl) (h.pick [0] rfl) rfl ?_
  refine qaF 24 rfl (by kernel_rfl) rfl #[tt, tt, tt, tt, tt, tt, tt, tt, tt, tt, tt, tt, tt, tt, tt, tt, tt, tt, tt, tt, tt, tt, tt, tt, tt, ff, ff, ff] (by kernel_rfl) (by kernel_rfl) (h.pick [0] rfl) rfl ?_
  refine qaF 25 rfl (by kernel_rfl) rfl #[tt, tt, tt, tt, tt, tt, tt, tt, tt, tt, tt, tt, tt, tt, tt, tt, tt, tt, tt, tt, tt, tt, tt, tt, tt, tt, ff, ff] (by kernel_rfl) (by kernel_rfl) (h.pick [0] rfl) rfl ?_
  refine qbc 26 rfl (by kernel_rfl) #[tt, tt, tt, tt, tt, tt, tt, tt, tt, tt, tt, tt, tt, tt, tt, tt, tt, tt, tt, tt, tt, tt, tt, tt, tt, tt, tt, ff] (by kernel_rfl) (by kernel_rfl) (fun w' hw => v_p qc rfl w') (h.pick [0] rfl) rfl ?_
  refine qi 27 rfl #[tt, tt, tt, tt, tt, tt, tt, tt, tt, tt, tt, tt, tt, tt, tt, tt, tt, tt, tt, tt, tt, tt, tt, tt, tt, tt, tt, tt] (by kernel_rfl) (by kernel_rfl) (fun w' hw => v_p qc rfl w') (h.pick [0] rfl) rfl ?_
  refine qcp (by kernel_rfl) ?_
  exact qc3 rfl rfl (zKER (zp3 rfl (qb (qA m1 [(1, _), (2, _), (5, _)] (Nat.lt_succ_self m1) ⟨rfl, rfl, rfl, trivial⟩ ⟨_, hF, rfl, h⟩))))
 refine qI rfl ?_
 obtain rfl := qj hF; replace hF := hK1
 exact zSR (zp1 rfl (qb (qu qc h hF ⟨rfl, trivial⟩)))

def qa1 (a_0 : qm) (a_1 : (List Int)) : Nat → Int → Int → Option (Int × Int)
 | 0, _, _ => none
 | n + 1, i1, i2 =>
  bif decide (i2 < (a_1.length : Int)) then
   bif decide (i1 < (a_0.Through.length : Int)) then
    (idx a_0.Through i1).bind fun y1 =>
    (idx a_1 i2).bind fun y2 =>
    bif (y1 == y2) then
     qa1 a_0 a_1 n (W64 (i1 + 1)) (W64 (i2 + 1))
    else
     qa1 a_0 a_1 n i1 (W64 (i2 + 1))
   else
    qa1 a_0 a_1 n i1 (W64 (i2 + 1))
  else
   some (i1, i2)

def qfa (n : Nat) (a_0 : qm) (a_1 : (List Int)) : Option Bool :=
 (
  bif decide ((a_0.From.length : Int) > 0) then
   (idx a_1 0).bind fun y3 =>
   (qee n a_0.From y3).bind fun r1 =>
   bif decide (r1 < 0) then
    some true
   else
    bif decide ((a_0.To.length : Int) > 0) then
     (idx a_1 (W64 ((a_1.length : Int) - 1))).bind fun y4 =>
     (qee n a_0.To y4).bind fun r2 =>
     some (decide (r2 < 0))
    else
     some false
  else
   bif decide ((a_0.To.length : Int) > 0) then
    (idx a_1 (W64 ((a_1.length : Int) - 1))).bind fun y5 =>
    (qee n a_0.To y5).bind fun r3 =>
    some (decide (r3 < 0))
   else
    some false).bind fun b1 =>
 bif b1 then
  some false
 else
  (qa1 a_0 a_1 n 0 0).bind fun o => match o with
  | (i1, _) =>
   some (i1 == (a_0.Through.length : Int))

theorem qjL {n : Nat} {w : World} {a_0 : qm} {a_1 : (List Int)} {cs1 : List Value} (ha1 : GoT.R w (old w) a_0 cs1) {cs2 : List Value} (ha2 : GoT.R w (old w) a_1 cs2) {r : Bool} (hF : qfa n a_0 a_1 = some r) : RetV Tryz.prog 58 [GoT.v qm cs1, GoT.v (List Int) cs2] w r := by
 obtain ⟨p1, k1, p2, k2, p3, k3, rfl, s1, s2, s3⟩ := qar ha1
 obtain ⟨p4, k4, rfl, s4⟩ := ha2
 refine qe Tryz.func58 rfl (m := 68) rfl rfl (fun h => ?_)
 rw [qfa] at hF
 refine zSR (qM h rfl rfl ?_)
 intro w1 bb1 h
 refine zp1 rfl (zNSS ?_)
 obtain ⟨KF1, hKF1, o2, hF, hK2⟩ := bindE hF
 refine qem (fun e w' => ∃ (b1 : Bool), KF1 b1 = some r ∧ e = [(1, .slice p4 a_1.length k4), (2, .pointer (some ⟨bb1, 0, none⟩)), (37, .bool b1)] ∧ SH w w' [Ch.box bb1 [.int .i64 a_0.Kind, .int .i64 a_0.Value, .slice p1 a_0.From.length k1, .slice p2 a_0.Through.length k2, .slice p3 a_0.To.length k3] 50]) ?_ ?_
 ·refine qco rfl (by kernel_rfl) ?_
  refine zd1 rfl ?_
  refine zdl 0 2 h rfl ?_
  refine zd3 rfl ?_
  by_cases hc7 : (decide ((a_0.From.length : Int) > 0)) = true
  ·replace hF := bifT hc7 hF
   refine qb0 hc7 (t := 11) rfl (qf rfl (zd1 rfl (qf rfl ?_)))
   refine zdl 0 2 h rfl ?_
   refine qf rfl (zd1 rfl (qf rfl ?_))
   obtain ⟨y3, hy3, hF⟩ := qd hF
   have he3 := qg hy3
   obtain ⟨b4, o_3, q3, cs5, hp3, hq3, -, hr3, hc8⟩ := s4.at hy3
   obtain rfl := hr3
   refine zdxe hp3 hq3 he3 rfl ?_
   refine qf rfl ?_
   refine zdc 0 (hc8.below h.below) rfl ?_
   refine qf rfl ?_
   obtain ⟨r1, hr4, hF⟩ := qd hF
   refine qcf r1 (vsI _) call111 (fun _ hb => qgL ⟨_, _, rfl, ((h.ext hb).oldS s1)⟩ hr4) rfl rfl rfl rfl ?_
   refine qf rfl (zd3 rfl ?_)
   by_cases hc9 : (decide (r1 < 0)) = true
   ·replace hF := bifT hc9 hF
    refine qb0 hc9 (t := 20) rfl (qh rfl rfl rfl (qh rfl rfl rfl (qh rfl rfl rfl (qh rfl rfl rfl (qh rfl rfl rfl (qh rfl rfl rfl (qh rfl rfl rfl (qh rfl rfl rfl (qh rfl rfl rfl (qh rfl rfl rfl (qh rfl rfl rfl ?_)))))))))))
    refine qh rfl rfl rfl (qh rfl rfl rfl (qh rfl rfl rfl (qh rfl rfl rfl (qh rfl rfl rfl (zd1 rfl ?_)))))
    refine qaX (fun w5 hb => ?_)
    replace h := h.ext hb
    clear hb
    obtain rfl := qj hF
    exact qx [(1, _), (2, _), (37, _)] ⟨rfl, rfl, rfl, trivial⟩ ⟨_, hK2, rfl, h⟩
   replace hc9 := zb hc9
   replace hF := bifF hc9 hF
   refine qb3 hc9 (t := 20) rfl (qf rfl (zd1 rfl (qf rfl ?_)))
   refine zdl 0 4 h rfl ?_
   refine qf rfl (zd1 rfl (qf rfl (zd1 rfl (qf rfl (zd1 rfl ?_)))))
   by_cases hc10 : (decide ((a_0.To.length : Int) > 0)) = true
   ·replace hF := bifT hc10 hF
    refine qb0 hc10 (t := 25) rfl (qf rfl (zd1 rfl (qf rfl ?_)))
    refine zdl 0 4 h rfl ?_
    refine qf rfl (zd1 rfl (qf rfl (zd1 rfl (qf rfl (zd1 rfl (qf rfl (zd1 rfl (qf rfl ?_))))))))
    obtain ⟨y4, hy4, hF⟩ := qd hF
    have he4 := qg hy4
    obtain ⟨b5, o_4, q4, cs6, hp4, hq4, -, hr5, hc11⟩ := s4.at hy4
    obtain rfl := hr5
    refine zdxe hp4 hq4 he4 rfl ?_
    refine qf rfl ?_
    refine zdc 0 (hc11.below h.below) rfl ?_
    refine qf rfl ?_
    obtain ⟨r2, hr6, hF⟩ := qd hF
    refine qcf r2 (vsI _) call111 (fun _ hb => qgL ⟨_, _, rfl, ((h.ext hb).oldS s3)⟩ hr6) rfl rfl rfl rfl ?_
    refine qf rfl (zd1 rfl (qf rfl (zd2 rfl ?_)))
    refine qaX (fun w6 hb => ?_)
    replace h := h.ext hb
    clear hb
    obtain rfl := qj hF
    exact qx [(1, _), (2, _), (37, _)] ⟨rfl, rfl, rfl, trivial⟩ ⟨_, hK2, rfl, h⟩
   replace hc10 := zb hc10
   replace hF := bifF hc10 hF
   refine qb3 hc10 (t := 25) rfl (qh rfl rfl rfl (qh rfl rfl rfl (qh rfl rfl rfl (qh rfl rfl rfl (qh rfl rfl rfl (qh rfl rfl rfl (qh rfl rfl rfl (qh rfl rfl rfl (qh rfl rfl rfl (qh rfl rfl rfl (qf rfl ?_)))))))))))
   refine zd2 rfl ?_
   refine qaX (fun w7 hb => ?_)
   replace h := h.ext hb
   clear hb
   obtain rfl := qj hF
   exact qx [(1, _), (2, _), (37, _)] ⟨rfl, rfl, rfl, trivial⟩ ⟨_, hK2, rfl, h⟩
  replace hc7 := zb hc7
  replace hF := bifF hc7 hF
  refine qb3 hc7 (t := 11) rfl (qh rfl rfl rfl (qh rfl rfl rfl (qh rfl rfl rfl (qh rfl rfl rfl (qh rfl rfl rfl (qh rfl rfl rfl (qh rfl rfl rfl (zd2 rfl (qf rfl (zd1 rfl ?_))))))))))
  refine qf rfl ?_
  refine zdl 0 4 h rfl ?_
  refine qf rfl (zd1 rfl (qf rfl (zd1 rfl (qf rfl (zd1 rfl ?_)))))
  by_cases hc12 : (decide ((a_0.To.length : Int) > 0)) = true
  ·replace hF := bifT hc12 hF
   refine qb0 hc12 (t := 25) rfl (qf rfl (zd1 rfl (qf rfl ?_)))
   refine zdl 0 4 h rfl ?_
   refine qf rfl (zd1 rfl (qf rfl (zd1 rfl (qf rfl (zd1 rfl (qf rfl (zd1 rfl (qf rfl ?_))))))))
   obtain ⟨y5, hy5, hF⟩ := qd hF
   have he5 := qg hy5
   obtain ⟨b6, o_5, q5, cs7, hp5, hq5, -, hr7, hc13⟩ := s4.at hy5
   obtain rfl := hr7
   refine zdxe hp5 hq5 he5 rfl ?_
   refine qf rfl ?_
   refine zdc 0 (hc13.below h.below) rfl ?_
   refine qf rfl ?_
   obtain ⟨r3, hr8, hF⟩ := qd hF
   refine qcf r3 (vsI _) call111 (fun _ hb => qgL ⟨_, _, rfl, ((h.ext hb).oldS s3)⟩ hr8) rfl rfl rfl rfl ?_
   refine qf rfl (zd1 rfl (qf rfl (zd2 rfl ?_)))
   refine qaX (fun w8 hb => ?_)
   replace h := h.ext hb
   clear hb
   obtain rfl := qj hF
   exact qx [(1, _), (2, _), (37, _)] ⟨rfl, rfl, rfl, trivial⟩ ⟨_, hK2, rfl, h⟩
  replace hc12 := zb hc12
  replace hF := bifF hc12 hF
  refine qb3 hc12 (t := 25) rfl (qh rfl rfl rfl (qh rfl rfl rfl (qh rfl rfl rfl (qh rfl rfl rfl (qh rfl rfl rfl (qh rfl rfl rfl (qh rfl rfl rfl (qh rfl rfl rfl (qh rfl rfl rfl (qh rfl rfl rfl (qf rfl ?_)))))))))))
  refine zd2 rfl ?_
  refine qaX (fun w9 hb => ?_)
  replace h := h.ext hb
  clear hb
  obtain rfl := qj hF
  exact qx [(1, _), (2, _), (37, _)] ⟨rfl, rfl, rfl, trivial⟩ ⟨_, hK2, rfl, h⟩
 rintro e2 w10 ⟨b1, hF, rfl, h⟩
 subst hKF1
 refine qq rfl hF ?_ ?_ <;> intro hF
 ·exact zSR (zp1 rfl (qb (qu qc h hF ⟨rfl, trivial⟩)))
 refine zKSR (zp1 rfl (zNSSR (zp1 rfl (qb ?_))))
 obtain ⟨o1, hF, hK1⟩ := qd hF
 refine qz (qT [(1, _), (2, _), (5, _), (6, _)] ⟨rfl, rfl, rfl, rfl, trivial⟩ ?_)
 refine qH (fun m e w' => ∃ (i1 : Int) (i2 : Int), qa1 a_0 a_1 m i1 i2 = some o1 ∧ e = [(1, .slice p4 a_1.length k4), (2, .pointer (some ⟨bb1, 0, none⟩)), (5, .int .i64 i1), (6, .int .i64 i2)] ∧ SH w w' [Ch.box bb1 [.int .i64 a_0.Kind, .int .i64 a_0.Value, .slice p1 a_0.From.length k1, .slice p2 a_0.Through.length k2, .slice p3 a_0.To.length k3] 50]) n ⟨_, _, hF, rfl, h⟩ ?_
 rintro m1 e1 w2 ⟨i1, i2, hF, rfl, h⟩
 rcases m1 with _ | m1
 ·rw [qa1] at hF
  cases hF
 rw [qa1] at hF
 refine zSSR (zp4 rfl (qb ?_))
 refine qq rfl hF ?_ ?_ <;> intro hF
 ·refine zKSB (qbn ?_)
  refine qco rfl (by kernel_rfl) ?_
  refine zd2 rfl ?_
  refine zdl 0 3 h rfl ?_
  refine zd3 rfl ?_
  by_cases hc3 : (decide (i1 < (a_0.Through.length : Int))) = true
  ·replace hF := bifT hc3 hF
   refine qb0 hc3 (t := 49) rfl (qf rfl (zd1 rfl (qf rfl ?_)))
   refine zdl 0 3 h rfl ?_
   refine qf rfl (zd1 rfl (qf rfl ?_))
   obtain ⟨y1, hy1, hF⟩ := qd hF
   have he1 := qg hy1
   obtain ⟨b2, o_1, q1, cs3, hp1, hq1, -, hr1, hc4⟩ := s2.at hy1
   obtain rfl := hr1
   refine zdxe hp1 hq1 he1 rfl ?_
   refine qf rfl ?_
   refine zdc 0 (hc4.below h.below) rfl ?_
   refine qf rfl (zd1 rfl (qf rfl (zd1 rfl (qf rfl ?_))))
   obtain ⟨y2, hy2, hF⟩ := qd hF
   have he2 := qg hy2
   obtain ⟨b3, o_2, q2, cs4, hp2, hq2, -, hr2, hc5⟩ := s4.at hy2
   obtain rfl := hr2
   refine zdxe hp2 hq2 he2 rfl ?_
   refine qf rfl ?_
   refine zdc 0 (hc5.below h.below) rfl ?_
   refine qf rfl (zd2 rfl ?_)
   refine qaX (fun w3 hb => ?_)
   replace h := h.ext hb
   clear hb
   refine qq rfl hF ?_ ?_ <;> intro hF
   ·exact qE (zp3 rfl (zNER (zp3 rfl (qb (qA m1 [(1, _), (2, _), (5, _), (6, _)] (Nat.lt_succ_self m1) ⟨rfl, rfl, rfl, rfl, trivial⟩ ⟨_, _, hF, rfl, h⟩)))))
   exact zKER (zp3 rfl (qb (qA m1 [(1, _), (2, _), (5, _), (6, _)] (Nat.lt_succ_self m1) ⟨rfl, rfl, rfl, rfl, trivial⟩ ⟨_, _, hF, rfl, h⟩)))
  replace hc3 := zb hc3
  replace hF := bifF hc3 hF
  refine qb3 hc3 (t := 49) rfl (qh rfl rfl rfl (qh rfl rfl rfl (qh rfl rfl rfl (qh rfl rfl rfl (qh rfl rfl rfl (qh rfl rfl rfl (qh rfl rfl rfl (qh rfl rfl rfl (qh rfl rfl rfl (qh rfl rfl rfl (zd1 rfl ?_)))))))))))
  refine qaX (fun w4 hb => ?_)
  replace h := h.ext hb
  clear hb
  exact qc3 rfl rfl (zKER (zp3 rfl (qb (qA m1 [(1, _), (2, _), (5, _), (6, _)] (Nat.lt_succ_self m1) ⟨rfl, rfl, rfl, rfl, trivial⟩ ⟨_, _, hF, rfl, h⟩))))
 refine qI rfl ?_
 obtain rfl := qj hF; replace hF := hK1
 exact zSR (zp2 rfl (zl 0 3 h rfl (zp3 rfl (qb (qu qc h hF ⟨rfl, trivial⟩)))))

def qeM (n : Nat) (b : qy) (a_e : qm) (path : (List Int)) : Option Bool :=
 (qex n b a_e).bind fun r1 =>
 bif r1 then
  (qe8 n b path).bind fun r2 =>
  bif r2 then
   (qfa n a_e path).bind fun r3 =>
   some r3
  else
   some false
 else
  some false

theorem qjE {n : Nat} {w : World} {b : qy} {a_e : qm} {path : (List Int)} {cs1 : List Value} (ha1 : GoT.R w (old w) b cs1) {cs2 : List Value} (ha2 : GoT.R w (old w) a_e cs2) {cs3 : List Value} (ha3 : GoT.R w (old w) path cs3) {r : Bool} (hF : qeM n b a_e path = some r) : RetV Tryz.prog 26 [GoT.v qy cs1, GoT.v qm cs2, GoT.v (List Int) cs3] w r := by
 obtain ⟨p1, k1, p2, k2, p3, k3, p4, k4, p5, k5, rfl, s1, s2, s3, s4, s5⟩ := qas ha1
 obtain ⟨p6, k6, p7, k7, p8, k8, rfl, s6, s7, s8⟩ := qar ha2
 obtain ⟨p9, k9, rfl, s9⟩ := ha3
 refine qe Tryz.func26 rfl (m := 20) rfl rfl (fun h => ?_)
 rw [qeM] at hF
 refine zSR (qM h rfl rfl ?_)
 intro w1 bb1 h
 refine qM h rfl rfl ?_
 intro w2 bb2 h
 refine zp1 rfl (zNSR (zl 1 0 h rfl (zl 0 0 h rfl ?_)))
 obtain ⟨r1, hr1, hF⟩ := qd hF
 refine ql r1 h call10 (qjD (h.old ha1) (h.old ha2) hr1) rfl rfl rfl rfl ?_
 intro w3 h
 refine zp1 rfl ?_
 by_cases hc1 : r1 = true
 ·replace hF := bifT hc1 hF
  refine qC hc1 (t := 10) rfl (qa rfl (zl 1 0 h rfl (qa rfl (zp1 rfl (qa rfl ?_)))))
  obtain ⟨r2, hr2, hF⟩ := qd hF
  refine ql r2 h call57 (qjW (h.old ha1) ⟨_, _, rfl, (h.oldS s9)⟩ hr2) rfl rfl rfl rfl ?_
  intro w4 h
  refine zp2 rfl ?_
  by_cases hc2 : r2 = true
  ·replace hF := bifT hc2 hF
   refine qC hc2 (t := 15) rfl (qa rfl (zl 0 0 h rfl (qa rfl (zp1 rfl (qa rfl ?_)))))
   obtain ⟨r3, hr3, hF⟩ := qd hF
   refine ql r3 h call58 (qjL (h.old ha2) ⟨_, _, rfl, (h.oldS s9)⟩ hr3) rfl rfl rfl rfl ?_
   intro w5 h
   exact zp2 rfl (qb (qu qc h hF ⟨rfl, trivial⟩))
  replace hc2 := zb hc2
  replace hF := bifF hc2 hF
  exact qB hc2 (t := 15) rfl (zn3 rfl (zp2 rfl (qb (qu qc h hF ⟨rfl, trivial⟩))))
 replace hc1 := zb hc1
 replace hF := bifF hc1 hF
 refine qB hc1 (t := 10) rfl (zn3 rfl (zp2 rfl (zn3 rfl (zp2 rfl (qb ?_)))))
 exact qu qc h hF ⟨rfl, trivial⟩

def qbo (s : (List Int)) (v : Int) : Nat → Int → Option (Flow Int Int)
 | 0, _ => none
 | n + 1, i1 =>
  bif decide (i1 < (s.length : Int)) then
   (idx s i1).bind fun y1 =>
   bif (v == y1) then
    some (.ret i1)
   else
    qbo s v n (W64 (i1 + 1))
  else
   some (.nxt i1)

def qe2 (n : Nat) (s : (List Int)) (v : Int) : Option Int :=
 (qbo s v n 0).bind fun o => match o with
 | .ret r => some r
 | .nxt _ =>
  some (-1)

theorem qiS {n : Nat} {w : World} {s : (List Int)} {v : Int} {cs1 : List Value} (ha1 : GoT.R w (old w) s cs1) {r : Int} (hF : qe2 n s v = some r) : RetV Tryz.prog 146 [GoT.v (List Int) cs1, .int .i64 v] w r := by
 obtain ⟨p1, k1, rfl, s1⟩ := ha1
 refine qe Tryz.func146 rfl (m := 19) rfl rfl (fun h => ?_)
 rw [qe2] at hF
 refine zSR (zp1 rfl (zNSSR (zp3 rfl (qb ?_))))
 obtain ⟨o1, hF, hK1⟩ := qd hF
 refine qz (qT [(0, _), (1, _), (7, _), (8, _)] ⟨rfl, rfl, rfl, rfl, trivial⟩ ?_)
 refine qH (fun m e w' => ∃ (i1 : Int), qbo s v m i1 = some o1 ∧ e = [(0, .slice p1 s.length k1), (1, .int .i64 v), (7, .int .i64 (s.length : Int)), (8, .int .i64 i1)] ∧ SH w w' []) n ⟨_, hF, rfl, h⟩ ?_
 rintro m1 e1 w1 ⟨i1, hF, rfl, h⟩
 rcases m1 with _ | m1
 ·rw [qbo] at hF
  cases hF
 rw [qbo] at hF
 refine zSR (zp1 rfl (zNS ?_))
 refine qq rfl hF ?_ ?_ <;> intro hF
 ·refine zKSBSR (zp2 rfl (zNSR (zp2 rfl ?_)))
  refine zp1 rfl ?_
  obtain ⟨y1, hy1, hF⟩ := qd hF
  have he1 := qg hy1
  obtain ⟨b1, o_1, q1, cs2, hp1, hq1, -, hr1, hc2⟩ := s1.at hy1
  obtain rfl := hr1
  refine zxe hp1 hq1 he1 rfl (zc 0 (hc2.below h.below) rfl (zp1 rfl (qb ?_)))
  refine qq rfl hF ?_ ?_ <;> intro hF
  ·refine zSR (zp2 rfl (qb ?_))
   obtain rfl := qj hF; replace hF := hK1
   exact qaB qc h hF ⟨rfl, trivial⟩
  exact zKER (zp2 rfl (qb (qA m1 [(0, _), (1, _), (7, _), (8, _)] (Nat.lt_succ_self m1) ⟨rfl, rfl, rfl, rfl, trivial⟩ ⟨_, hF, rfl, h⟩)))
 refine qI rfl ?_
 obtain rfl := qj hF; replace hF := hK1
 exact zSR (zp1 rfl (qb (qaB qc h hF ⟨rfl, trivial⟩)))

def qbH (n : Nat) (s : (List Int)) (v : Int) : Option Bool :=
 (qe2 n s v).bind fun r1 =>
 some (decide (r1 ≥ 0))

theorem qes {n : Nat} {w : World} {s : (List Int)} {v : Int} {cs1 : List Value} (ha1 : GoT.R w (old w) s cs1) {r : Bool} (hF : qbH n s v = some r) : RetV Tryz.prog 112 [GoT.v (List Int) cs1, .int .i64 v] w r := by
 obtain ⟨p1, k1, rfl, s1⟩ := ha1
 refine qe Tryz.func112 rfl (m := 9) rfl rfl (fun h => ?_)
 rw [qbH] at hF
 refine zSR (zp1 rfl (zNSR (zp2 rfl ?_)))
 obtain ⟨r1, hr1, hF⟩ := qd hF
 refine qQ r1 h call146 (qiS ⟨_, _, rfl, (h.oldS s1)⟩ hr1) rfl rfl rfl rfl ?_
 intro w1 h
 exact zp2 rfl (qb (qu qc h hF ⟨rfl, trivial⟩))

def qa6 (v : (Option Tview)) (path : (List Int)) : Nat → Int → Option (Flow Bool Int)
 | 0, _ => none
 | n + 1, i1 =>
  bif decide (i1 < (path.length : Int)) then
   (idx path (W64 (i1 - 1))).bind fun y1 =>
   (idx path i1).bind fun y2 =>
   (qdo n v y1).bind fun r1 =>
   (qbH n r1 y2).bind fun r2 =>
   bif (!r2) then
    some (.ret false)
   else
    qa6 v path n (W64 (i1 + 1))
  else
   some (.nxt i1)

def qdq (n : Nat) (v : (Option Tview)) (path : (List Int)) : Option Bool :=
 (
  (qah n path).bind fun r3 =>
  (qaM n r3 1 60).bind fun r4 =>
  bif (!r4) then
   some true
  else
   (v).bind fun y3 =>
   (qbf n y3.places).bind fun r5 =>
   (qbs n path 0 (W64 (r5 - 1))).bind fun r6 =>
   some (!r6)).bind fun b1 =>
 bif b1 then
  some false
 else
  (qa6 v path n 1).bind fun o => match o with
  | .ret r => some r
  | .nxt _ =>
   some true

theorem qir {n : Nat} {w : World} {v : (Option Tview)} {path : (List Int)} {cs1 : List Value} (ha1 : GoT.R w (old w) v cs1) {cs2 : List Value} (ha2 : GoT.R w (old w) path cs2) {r : Bool} (hF : qdq n v path = some r) : RetV Tryz.prog 59 [GoT.v (Option Tview) cs1, GoT.v (List Int) cs2] w r := by
 obtain ⟨p1, rfl, s1⟩ := qi6 ha1
 obtain ⟨p2, k1, rfl, s2⟩ := ha2
 refine qe Tryz.func59 rfl (m := 40) rfl rfl (fun h => ?_)
 rw [qdq] at hF
 refine zSR (zp1 rfl (zNSS ?_))
 obtain ⟨KF1, hKF1, o2, hF, hK2⟩ := bindE hF
 refine qem (fun e w' => ∃ (b1 : Bool), KF1 b1 = some r ∧ e = [(0, .pointer p1), (1, .slice p2 path.length k1), (20, .bool b1)] ∧ SH w w' []) ?_ ?_
 ·refine qE (zp1 rfl ?_)
  obtain ⟨r3, hr5, hF⟩ := qd hF
  refine qQ r3 h call79 (qbe ⟨_, _, rfl, (h.oldS s2)⟩ hr5) rfl rfl rfl rfl ?_
  intro w5 h
  obtain ⟨r4, hr6, hF⟩ := qd hF
  refine ql r4 h call100 (qaw hr6) rfl rfl rfl rfl ?_
  intro w6 h
  refine zp2 rfl ?_
  by_cases hc6 : (!r4) = true
  ·replace hF := bifT hc6 hF
   refine qC hc6 (t := 10) rfl (zn5 rfl (zn4 rfl (zp1 rfl (qb ?_))))
   obtain rfl := qj hF
   exact qx [(0, _), (1, _), (20, _)] ⟨rfl, rfl, rfl, trivial⟩ ⟨_, hK2, rfl, h⟩
  replace hc6 := zb hc6
  replace hF := bifF hc6 hF
  refine qB hc6 (t := 10) rfl (qa rfl (zp1 rfl (qa rfl (zp1 rfl (qa rfl ?_)))))
  obtain ⟨y3, hy3, hF⟩ := qd hF
  obtain ⟨b4, o_3, cs5, rfl, -, hr7, hc7⟩ := PtR.get s1 hy3
  obtain ⟨p4, k3, p5, k4, p6, k5, p7, k6, p8, k7, p9, k8, p10, k9, p11, k10, p12, k11, p13, k12, rfl, s3, s4, s5, s6, s7, s8, s9, s10, s11, s12⟩ := qiA hr7
  refine zp1 rfl (qa rfl (zp1 rfl (qa rfl (zc 5 (hc7.below h.below) rfl (qa rfl ?_)))))
  obtain ⟨r5, hr8, hF⟩ := qd hF
  refine qQ r5 h call83 (qfM ⟨_, _, rfl, (h.oldS s8)⟩ hr8) rfl rfl rfl rfl ?_
  intro w7 h
  refine qa rfl (zp1 rfl (qa rfl ?_))
  obtain ⟨r6, hr9, hF⟩ := qd hF
  refine ql r6 h call82 (qb9 ⟨_, _, rfl, (h.oldS s2)⟩ hr9) rfl rfl rfl rfl ?_
  intro w8 h
  refine qa rfl (zp2 rfl (qb ?_))
  obtain rfl := qj hF
  exact qx [(0, _), (1, _), (20, _)] ⟨rfl, rfl, rfl, trivial⟩ ⟨_, hK2, rfl, h⟩
 rintro e2 w9 ⟨b1, hF, rfl, h⟩
 subst hKF1
 refine qq rfl hF ?_ ?_ <;> intro hF
 ·exact zSR (zp1 rfl (qb (qu qc h hF ⟨rfl, trivial⟩)))
 refine zKSSR (zp1 rfl (qb ?_))
 obtain ⟨o1, hF, hK1⟩ := qd hF
 refine qz (qT [(0, _), (1, _), (5, _)] ⟨rfl, rfl, rfl, trivial⟩ ?_)
 refine qH (fun m e w' => ∃ (i1 : Int), qa6 v path m i1 = some o1 ∧ e = [(0, .pointer p1), (1, .slice p2 path.length k1), (5, .int .i64 i1)] ∧ SH w w' []) n ⟨_, hF, rfl, h⟩ ?_
 rintro m1 e1 w1 ⟨i1, hF, rfl, h⟩
 rcases m1 with _ | m1
 ·rw [qa6] at hF
  cases hF
 rw [qa6] at hF
 refine zSSR (zp4 rfl (qb ?_))
 refine qq rfl hF ?_ ?_ <;> intro hF
 ·refine zKSB (qbn ?_)
  refine qeO [] (fun w' => SH w w' []) rfl 13 rfl #[ff, ff, ff, ff, ff, ff, ff, ff, ff, ff, ff, ff, ff] (by kernel_rfl) (fun w2 hb => ?_)
  replace h := h.ext hb
  clear hb
  refine qi 0 rfl #[tt, ff, ff, ff, ff, ff, ff, ff, ff, ff, ff, ff, ff] (by kernel_rfl) (by kernel_rfl) (fun w' hw => v_p qc rfl w') (h.pick [] rfl) rfl ?_
  refine qi 1 rfl #[tt, tt, ff, ff, ff, ff, ff, ff, ff, ff, ff, ff, ff] (by kernel_rfl) (by kernel_rfl) (fun w' hw => v_p qc rfl w') (h.pick [] rfl) rfl ?_
  refine qi 2 rfl #[tt, tt, tt, ff, ff, ff, ff, ff, ff, ff, ff, ff, ff] (by kernel_rfl) (by kernel_rfl) (fun w' hw => v_p qc rfl w') (h.pick [] rfl) rfl ?_
  refine qi 3 rfl #[tt, tt, tt, tt, ff, ff, ff, ff, ff, ff, ff, ff, ff] (by kernel_rfl) (by kernel_rfl) (fun w' hw => v_p qc rfl w') (h.pick [] rfl) rfl ?_
  obtain ⟨y1, hy1, hF⟩ := qd hF
  have he1 := qg hy1
  obtain ⟨b2, o_1, q1, cs3, hp1, hq1, -, hr1, hc3⟩ := s2.at hy1
  obtain rfl := hr1
  refine qi 4 rfl #[tt, tt, tt, tt, tt, ff, ff, ff, ff, ff, ff, ff, ff] (by kernel_rfl) (by kernel_rfl) (fun w' hw => qe3 qc hp1 hq1 ⟨he1.1, he1.2.1⟩ rfl rfl rfl rfl rfl rfl) (h.pick [] rfl) rfl ?_
  refine qi 5 rfl #[tt, tt, tt, tt, tt, tt, ff, ff, ff, ff, ff, ff, ff] (by kernel_rfl) (by kernel_rfl) (fun w' hw => qbj qc (hc3.below hw.below) (j := 0) rfl rfl rfl) (h.pick [] rfl) rfl ?_
  refine qi 7 rfl #[tt, tt, tt, tt, tt, tt, ff, tt, ff, ff, ff, ff, ff] (by kernel_rfl) (by kernel_rfl) (fun w' hw => v_p qc rfl w') (h.pick [] rfl) rfl ?_
  refine qi 8 rfl #[tt, tt, tt, tt, tt, tt, ff, tt, tt, ff, ff, ff, ff] (by kernel_rfl) (by kernel_rfl) (fun w' hw => v_p qc rfl w') (h.pick [] rfl) rfl ?_
  obtain ⟨y2, hy2, hF⟩ := qd hF
  have he2 := qg hy2
  obtain ⟨b3, o_2, q2, cs4, hp2, hq2, -, hr2, hc4⟩ := s2.at hy2
  obtain rfl := hr2
  refine qi 9 rfl #[tt, tt, tt, tt, tt, tt, ff, tt, tt, tt, ff, ff, ff] (by kernel_rfl) (by kernel_rfl) (fun w' hw => qe3 qc hp2 hq2 ⟨he2.1, he2.2.1⟩ rfl rfl rfl rfl rfl rfl) (h.pick [] rfl) rfl ?_
  refine qi 10 rfl #[tt, tt, tt, tt, tt, tt, ff, tt, tt, tt, tt, ff, ff] (by kernel_rfl) (by kernel_rfl) (fun w' hw => qbj qc (hc4.below hw.below) (j := 0) rfl rfl rfl) (h.pick [] rfl) rfl ?_
  refine qab 6 rfl #[tt, tt, tt, tt, tt, tt, tt, tt, tt, tt, tt, ff, ff] (by kernel_rfl) (by kernel_rfl) ?_
  obtain ⟨r1, hr3, hF⟩ := qd hF
  refine qak r1 h call53 (qii (h.old s1) hr3) rfl rfl rfl rfl ?_
  intro w3 S1 p3 k2 h
  refine qW (fun _ => (h.pick [] rfl)) ?_
  refine qab 11 rfl #[tt, tt, tt, tt, tt, tt, tt, tt, tt, tt, tt, tt, ff] (by kernel_rfl) (by kernel_rfl) ?_
  obtain ⟨r2, hr4, hF⟩ := qd hF
  refine ql r2 h call112 (qes (h.own 0 rfl) hr4) rfl rfl rfl rfl ?_
  intro w4 h
  refine qW (fun _ => (h.pick [] rfl)) ?_
  refine qi 12 rfl #[tt, tt, tt, tt, tt, tt, tt, tt, tt, tt, tt, tt, tt] (by kernel_rfl) (by kernel_rfl) (fun w' hw => v_p qc rfl w') (h.pick [] rfl) rfl ?_
  refine qcp (by kernel_rfl) ?_
  refine qq rfl hF ?_ ?_ <;> intro hF
  ·refine zSR (zp1 rfl (qb ?_))
   obtain rfl := qj hF; replace hF := hK1
   exact qu qc h hF ⟨rfl, trivial⟩
  refine zKER (zp3 rfl (qb ?_))
  replace h := h.pick [] rfl
  exact qA m1 [(0, _), (1, _), (5, _)] (Nat.lt_succ_self m1) ⟨rfl, rfl, rfl, trivial⟩ ⟨_, hF, rfl, h⟩
 refine qI rfl ?_
 obtain rfl := qj hF; replace hF := hK1
 exact zSR (zp1 rfl (qb (qu qc h hF ⟨rfl, trivial⟩)))

def qcC (n : Nat) (a_e : qm) (found : Int) (a_end : Int) : Option Bool :=
 (qah n a_e.Through).bind fun r1 =>
 bif (found == r1) then
  bif ((a_e.To.length : Int) == 0) then
   some true
  else
   (qbH n a_e.To a_end).bind fun r2 =>
   some r2
 else
  some false

theorem qh0 {n : Nat} {w : World} {a_e : qm} {found : Int} {a_end : Int} {cs1 : List Value} (ha1 : GoT.R w (old w) a_e cs1) {r : Bool} (hF : qcC n a_e found a_end = some r) : RetV Tryz.prog 60 [GoT.v qm cs1, .int .i64 found, .int .i64 a_end] w r := by
 obtain ⟨p1, k1, p2, k2, p3, k3, rfl, s1, s2, s3⟩ := qar ha1
 refine qe Tryz.func60 rfl (m := 24) rfl rfl (fun h => ?_)
 rw [qcC] at hF
 refine zSR (qM h rfl rfl ?_)
 intro w1 bb1 h
 refine zp1 rfl (zNSR (zp2 rfl (zl 0 3 h rfl ?_)))
 obtain ⟨r1, hr1, hF⟩ := qd hF
 refine qQ r1 h call79 (qbe ⟨_, _, rfl, (h.oldS s2)⟩ hr1) rfl rfl rfl rfl ?_
 intro w2 h
 refine zp2 rfl ?_
 by_cases hc1 : (found == r1) = true
 ·replace hF := bifT hc1 hF
  refine qC hc1 (t := 12) rfl (qa rfl (zp1 rfl (qa rfl (zl 0 4 h rfl (qa rfl (zp1 rfl (qa rfl (zp1 rfl (qa rfl (zp1 rfl ?_))))))))))
  by_cases hc2 : ((a_e.To.length : Int) == 0) = true
  ·replace hF := bifT hc2 hF
   exact qC hc2 (t := 17) rfl (zn4 rfl (qa rfl (zp3 rfl (qb (qu qc h hF ⟨rfl, trivial⟩)))))
  replace hc2 := zb hc2
  replace hF := bifF hc2 hF
  refine qB hc2 (t := 17) rfl (qa rfl (zp1 rfl (qa rfl (zl 0 4 h rfl (qa rfl (zp1 rfl (qa rfl ?_)))))))
  obtain ⟨r2, hr2, hF⟩ := qd hF
  refine ql r2 h call112 (qes ⟨_, _, rfl, (h.oldS s3)⟩ hr2) rfl rfl rfl rfl ?_
  intro w3 h
  exact qa rfl (zp3 rfl (qb (qu qc h hF ⟨rfl, trivial⟩)))
 replace hc1 := zb hc1
 replace hF := bifF hc1 hF
 refine qB hc1 (t := 12) rfl (zn5 rfl (zn5 rfl (zp1 rfl ?_)))
 exact zp1 rfl (qb (qu qc h hF ⟨rfl, trivial⟩))

def qb7 (n : Nat) (a_e : qm) (found : Int) (place : Int) : Option Int :=
 bif decide (found ≥ 0) then
  (qah n a_e.Through).bind fun r1 =>
  bif decide (found < r1) then
   (idx a_e.Through found).bind fun y1 =>
   bif (y1 == place) then
    some (W64 (found + 1))
   else
    some found
  else
   some found
 else
  some found

theorem qeX {n : Nat} {w : World} {a_e : qm} {found : Int} {place : Int} {cs1 : List Value} (ha1 : GoT.R w (old w) a_e cs1) {r : Int} (hF : qb7 n a_e found place = some r) : RetV Tryz.prog 114 [GoT.v qm cs1, .int .i64 found, .int .i64 place] w r := by
 obtain ⟨p1, k1, p2, k2, p3, k3, rfl, s1, s2, s3⟩ := qar ha1
 refine qe Tryz.func114 rfl (m := 28) rfl rfl (fun h => ?_)
 rw [qb7] at hF
 refine zSR (qM h rfl rfl ?_)
 intro w1 bb1 h
 refine zp1 rfl (zNSSR (zp3 rfl ?_))
 by_cases hc1 : (decide (found ≥ 0)) = true
 ·replace hF := bifT hc1 hF
  refine qC hc1 (t := 9) rfl (qa rfl (zp1 rfl (qa rfl (zp1 rfl (qa rfl (zl 0 3 h rfl (qa rfl ?_)))))))
  obtain ⟨r1, hr1, hF⟩ := qd hF
  refine qQ r1 h call79 (qbe ⟨_, _, rfl, (h.oldS s2)⟩ hr1) rfl rfl rfl rfl ?_
  intro w2 h
  refine qa rfl (zp3 rfl ?_)
  by_cases hc2 : (decide (found < r1)) = true
  ·replace hF := bifT hc2 hF
   refine qC hc2 (t := 16) rfl (qa rfl (zp1 rfl (qa rfl (zl 0 3 h rfl (qa rfl (zp1 rfl (qa rfl ?_)))))))
   obtain ⟨y1, hy1, hF⟩ := qd hF
   have he1 := qg hy1
   obtain ⟨b1, o_1, q1, cs2, hp1, hq1, -, hr2, hc3⟩ := s2.at hy1
   obtain rfl := hr2
   refine zxe hp1 hq1 he1 rfl (qa rfl (zc 0 (hc3.below h.below) rfl (qa rfl (zp1 rfl (qa rfl (zp2 rfl (qb ?_)))))))
   refine qq rfl hF ?_ ?_ <;> intro hF
   ·exact zSR (zp3 rfl (qb (qaB qc h hF ⟨rfl, trivial⟩)))
   exact zKSR (zp2 rfl (qb (qaB qc h hF ⟨rfl, trivial⟩)))
  replace hc2 := zb hc2
  replace hF := bifF hc2 hF
  refine qB hc2 (t := 16) rfl (zn5 rfl (zn2 rfl (zp1 rfl (qb (qc3 rfl rfl (qd4 ?_))))))
  exact zSR (zp2 rfl (qb (qaB qc h hF ⟨rfl, trivial⟩)))
 replace hc1 := zb hc1
 replace hF := bifF hc1 hF
 refine qB hc1 (t := 9) rfl (zn5 rfl (zp2 rfl (zn4 rfl ?_)))
 refine zn3 rfl (zp1 rfl (qb (qc3 rfl rfl (zKSR (zp2 rfl (qb ?_))))))
 exact qaB qc h hF ⟨rfl, trivial⟩

def qdr (n : Nat) (a_e : qm) (place : Int) : Option Int :=
 bif decide ((a_e.From.length : Int) > 0) then
  (qbH n a_e.From place).bind fun r1 =>
  bif (!r1) then
   some (-1)
  else
   (qb7 n a_e 0 place).bind fun r2 =>
   some r2
 else
  (qb7 n a_e 0 place).bind fun r3 =>
  some r3

theorem qin {n : Nat} {w : World} {a_e : qm} {place : Int} {cs1 : List Value} (ha1 : GoT.R w (old w) a_e cs1) {r : Int} (hF : qdr n a_e place = some r) : RetV Tryz.prog 113 [GoT.v qm cs1, .int .i64 place] w r := by
 obtain ⟨p1, k1, p2, k2, p3, k3, rfl, s1, s2, s3⟩ := qar ha1
 refine qe Tryz.func113 rfl (m := 19) rfl rfl (fun h => ?_)
 rw [qdr] at hF
 refine zSR (qM h rfl rfl ?_)
 intro w1 bb1 h
 refine zp1 rfl (zNSSR (zp1 rfl (zl 0 2 h rfl (zp3 rfl ?_))))
 by_cases hc1 : (decide ((a_e.From.length : Int) > 0)) = true
 ·replace hF := bifT hc1 hF
  refine qC hc1 (t := 9) rfl (qa rfl (zp1 rfl (qa rfl (zl 0 2 h rfl (qa rfl (zp1 rfl (qa rfl ?_)))))))
  obtain ⟨r1, hr1, hF⟩ := qd hF
  refine ql r1 h call112 (qes ⟨_, _, rfl, (h.oldS s1)⟩ hr1) rfl rfl rfl rfl ?_
  intro w2 h
  refine qa rfl (zp2 rfl (qb ?_))
  refine qq rfl hF ?_ ?_ <;> intro hF
  ·exact zSR (zp1 rfl (qb (qaB qc h hF ⟨rfl, trivial⟩)))
  refine zKSR (zl 0 0 h rfl (zp1 rfl ?_))
  obtain ⟨r2, hr2, hF⟩ := qd hF
  refine qQ r2 h call114 (qeX (h.old ha1) hr2) rfl rfl rfl rfl ?_
  intro w3 h
  exact zp1 rfl (qb (qaB qc h hF ⟨rfl, trivial⟩))
 replace hc1 := zb hc1
 replace hF := bifF hc1 hF
 refine qB hc1 (t := 9) rfl (zn5 rfl (zp1 rfl (qb (qc3 rfl rfl (zKSR ?_)))))
 refine zl 0 0 h rfl (zp1 rfl ?_)
 obtain ⟨r3, hr3, hF⟩ := qd hF
 refine qQ r3 h call114 (qeX (h.old ha1) hr3) rfl rfl rfl rfl ?_
 intro w4 h
 exact zp1 rfl (qb (qaB qc h hF ⟨rfl, trivial⟩))

def qde (y1 : qm) (x2 : (List Int)) : Nat → Int → Int → Option (Int × Int)
 | 0, _, _ => none
 | n + 1, i2, i3 =>
  bif decide (i3 < (x2.length : Int)) then
   (idx x2 i3).bind fun y3 =>
   (qb7 n y1 i2 y3).bind fun r2 =>
   qde y1 x2 n r2 (W64 (i3 + 1))
  else
   some (i2, i3)

def qdb (list : (List qm)) (path : (List Int)) : Nat → (List Int) → Int → Option ((List Int) × Int)
 | 0, _, _ => none
 | n + 1, x1, i1 =>
  bif decide (i1 < (list.length : Int)) then
   (idx list i1).bind fun y1 =>
   (idx path 0).bind fun y2 =>
   (qdr n y1 y2).bind fun r1 =>
   (subS path 1 (path.length : Int)).bind fun x2 =>
   (qde y1 x2 n r1 0).bind fun o => match o with
   | (i2, _) =>
    (appS x1 ([i2] : List Int)).bind fun x3 =>
    qdb list path n x3 (W64 (i1 + 1))
  else
   some (x1, i1)

def qhT (n : Nat) (list : (List qm)) (path : (List Int)) : Option (List Int) :=
 (qdb list path n ([] : List Int) 0).bind fun o => match o with
 | (x1, _) =>
  some x1

theorem qlW {n : Nat} {w : World} {list : (List qm)} {path : (List Int)} {cs1 : List Value} (ha1 : GoT.R w (old w) list cs1) {cs2 : List Value} (ha2 : GoT.R w (old w) path cs2) {r : (List Int)} (hF : qhT n list path = some r) : RetV Tryz.prog 61 [GoT.v (List qm) cs1, GoT.v (List Int) cs2] w r := by
 obtain ⟨p1, k1, rfl, s1⟩ := ha1
 obtain ⟨p2, k2, rfl, s2⟩ := ha2
 refine qe Tryz.func61 rfl (m := 40) rfl rfl (fun h => ?_)
 rw [qhT] at hF
 refine zSR (zp1 rfl (zNSR (zp1 rfl (zNSSR (zp1 rfl ?_)))))
 refine zp2 rfl (qb ?_)
 replace h := h.nil (α := Int)
 obtain ⟨o1, hF, hK1⟩ := qd hF
 refine qz (qT [(1, _), (5, _), (11, _), (12, _), (13, _)] ⟨rfl, rfl, rfl, rfl, rfl, trivial⟩ ?_)
 refine qH (fun m e w' => ∃ (S1 : Nat → Prop) (p3 : Option Addr) (ln1 : Nat) (k3 : Nat) (x1 : (List Int)) (i1 : Int), qdb list path m x1 i1 = some o1 ∧ e = [(1, .slice p2 path.length k2), (5, .slice p3 ln1 k3), (11, .slice p1 list.length k1), (12, .int .i64 (list.length : Int)), (13, .int .i64 i1)] ∧ SH w w' [Ch.own S1 (x1 : List Int) [.slice p3 ln1 k3]]) n ⟨_, _, _, _, _, _, hF, rfl, h⟩ ?_
 rintro m1 e1 w1 ⟨S1, p3, ln1, k3, x1, i1, hF, rfl, h⟩
 obtain rfl := (h.sl 0 rfl).2
 rcases m1 with _ | m1
 ·rw [qdb] at hF
  cases hF
 rw [qdb] at hF
 refine zSR (zp1 rfl (zNS ?_))
 refine qq rfl hF ?_ ?_ <;> intro hF
 ·refine zKSBSR ?_
  obtain ⟨y1, hy1, hF⟩ := qd hF
  have he1 := qg hy1
  obtain ⟨b1, o_1, q1, cs3, hp1, hq1, -, hr1, hc2⟩ := s1.at hy1
  obtain ⟨p4, k4, p5, k5, p6, k6, rfl, s3, s4, s5⟩ := qar hr1
  refine zxe hp1 hq1 he1 rfl (zc 0 (hc2.below h.below) rfl (qU qc h rfl rfl rfl ?_))
  intro w2 bb1 h
  refine zs 0 h rfl ?_
  intro w3 h
  replace h : SH _ _ [Ch.box bb1 [.int .i64 y1.Kind, .int .i64 y1.Value, .slice p4 y1.From.length k4, .slice p5 y1.Through.length k5, .slice p6 y1.To.length k6] 50, Ch.own S1 (x1 : List Int) [.slice p3 x1.length k3]] := h
  refine zNS ?_
  refine qco rfl (by kernel_rfl) ?_
  refine zdl 0 0 h rfl ?_
  refine zd1 rfl ?_
  obtain ⟨y2, hy2, hF⟩ := qd hF
  have he2 := qg hy2
  obtain ⟨b2, o_2, q2, cs4, hp2, hq2, -, hr2, hc3⟩ := s2.at hy2
  obtain rfl := hr2
  refine zdxe hp2 hq2 he2 rfl ?_
  refine zdc 0 (hc3.below h.below) rfl ?_
  obtain ⟨r1, hr3, hF⟩ := qd hF
  refine qcf r1 (vsI _) call113 (fun _ hb => qin (qi4 y1 ((h.ext hb).oldS s3) ((h.ext hb).oldS s4) ((h.ext hb).oldS s5)) hr3) rfl rfl rfl rfl ?_
  refine zd1 rfl ?_
  refine qaX (fun w4 hb => ?_)
  replace h := h.ext hb
  clear hb
  refine zSSR (zp1 rfl ?_)
  obtain ⟨x2, hx1, hF⟩ := qd hF
  obtain ⟨p7, k7, hp3, hk1, hl1, g1⟩ := qoa (h.oldS s2) hx1
  refine r_v (qlq qc rfl rfl rfl (qnV g1 rfl) hp3 hk1 hl1 rfl rfl rfl rfl) rfl ?_
  have s6 := qnK s2 hx1 hp3 hk1
  refine zp2 rfl (qb ?_)
  obtain ⟨o2, hF, hK2⟩ := qd hF
  refine qz (qT [(1, _), (5, _), (7, _), (8, _), (11, _), (12, _), (13, _), (23, _), (24, _), (25, _)] ⟨rfl, rfl, rfl, rfl, rfl, rfl, rfl, rfl, rfl, rfl, trivial⟩ ?_)
  refine qH (fun m e w' => ∃ (i2 : Int) (i3 : Int), qde y1 x2 m i2 i3 = some o2 ∧ e = [(1, .slice p2 path.length k2), (5, .slice p3 x1.length k3), (7, .pointer (some ⟨bb1, 0, none⟩)), (8, .int .i64 i2), (11, .slice p1 list.length k1), (12, .int .i64 (list.length : Int)), (13, .int .i64 i1), (23, .slice p7 x2.length k7), (24, .int .i64 (x2.length : Int)), (25, .int .i64 i3)] ∧ SH w w' [Ch.box bb1 [.int .i64 y1.Kind, .int .i64 y1.Value, .slice p4 y1.From.length k4, .slice p5 y1.Through.length k5, .slice p6 y1.To.length k6] 50, Ch.own S1 (x1 : List Int) [.slice p3 x1.length k3]]) m1 ⟨_, _, hF, rfl, h⟩ ?_
  rintro m2 e2 w5 ⟨i2, i3, hF, rfl, h⟩
  rcases m2 with _ | m2
  ·rw [qde] at hF
   cases hF
  rw [qde] at hF
  refine zSR (zp1 rfl (zNS ?_))
  refine qq rfl hF ?_ ?_ <;> intro hF
  ·refine zKSBSR ?_
   obtain ⟨y3, hy3, hF⟩ := qd hF
   have he3 := qg hy3
   obtain ⟨b3, o_3, q3, cs5, hp4, hq3, -, hr4, hc5⟩ := s6.at hy3
   obtain rfl := hr4
   refine zxe hp4 hq3 he3 rfl (zc 0 (hc5.below h.below) rfl (zp1 rfl (qb (qE (zl 0 0 h rfl (zp2 rfl ?_))))))
   obtain ⟨r2, hr5, hF⟩ := qd hF
   refine qQ r2 h call114 (qeX (qi4 y1 (h.oldS s3) (h.oldS s4) (h.oldS s5)) hr5) rfl rfl rfl rfl ?_
   intro w6 h
   exact zp1 rfl (zNER (zp2 rfl (qb (qA m2 [(1, _), (5, _), (7, _), (8, _), (11, _), (12, _), (13, _), (23, _), (24, _), (25, _)] (Nat.lt_succ_self m2) ⟨rfl, rfl, rfl, rfl, rfl, rfl, rfl, rfl, rfl, rfl, trivial⟩ ⟨_, _, hF, rfl, h⟩))))
  refine qI rfl ?_
  obtain rfl := qj hF; replace hF := hK2
  refine qE (zp2 rfl (qaP qc [.tmp 35] _ ([i2] : List Int) h rfl rfl rfl rfl rfl rfl rfl rfl rfl ⟨rfl, trivial⟩ rfl ?_))
  intro w7 p8 S2 h
  obtain ⟨x3, hx2, hF⟩ := qd hF
  obtain ⟨g2, hx2⟩ := qbr hx2
  refine qeq qc 2 h rfl (h.sl 0 rfl).1 (h.sl 0 rfl).2 rfl rfl rfl rfl rfl rfl rfl rfl rfl g2 hx2 rfl ?_
  intro w8 p9 k8 S3 h
  refine zp1 rfl (zNER (zp2 rfl (qb ?_)))
  replace h := h.pick [2] rfl
  exact qA m1 [(1, _), (5, _), (11, _), (12, _), (13, _)] (Nat.lt_succ_self m1) ⟨rfl, rfl, rfl, rfl, rfl, trivial⟩ ⟨_, _, _, _, _, _, hF, rfl, h⟩
 refine qI rfl ?_
 obtain rfl := qj hF; replace hF := hK1
 refine zSR (zp2 rfl (qb ?_))
 obtain rfl := qj hF
 exact qap qc (ρ := (List Int)) [GoT.v (List Int) [.slice p3 x1.length k3]] h ⟨rfl, trivial⟩ (PV.done h (qav (qaz 0 h rfl)))

def qeJ (n : Nat) (b : qy) (a_e : qm) (path : (List Int)) : Option Bool :=
 (qgK n b).bind fun r1 =>
 bif (!r1) then
  some false
 else
  (qgO n b).bind fun r2 =>
  (qc4 n r2 a_e).bind fun r3 =>
  bif r3 then
   (qdq n r2 path).bind fun r4 =>
   bif r4 then
    (idx path (W64 ((path.length : Int) - 1))).bind fun y1 =>
    (qhT n ([a_e] : List qm) path).bind fun r5 =>
    (idx r5 0).bind fun y2 =>
    (qcC n a_e y2 y1).bind fun r6 =>
    some r6
   else
    some false
  else
   some false

theorem qju {n : Nat} {w : World} {b : qy} {a_e : qm} {path : (List Int)} {cs1 : List Value} (ha1 : GoT.R w (old w) b cs1) {cs2 : List Value} (ha2 : GoT.R w (old w) a_e cs2) {cs3 : List Value} (ha3 : GoT.R w (old w) path cs3) {r : Bool} (hF : qeJ n b a_e path = some r) : RetV Tryz.prog 28 [GoT.v qy cs1, GoT.v qm cs2, GoT.v (List Int) cs3] w r := by
 obtain ⟨p1, k1, p2, k2, p3, k3, p4, k4, p5, k5, rfl, s1, s2, s3, s4, s5⟩ := qas ha1
 obtain ⟨p6, k6, p7, k7, p8, k8, rfl, s6, s7, s8⟩ := qar ha2
 obtain ⟨p9, k9, rfl, s9⟩ := ha3
 refine qe Tryz.func28 rfl (m := 37) rfl rfl (fun h => ?_)
 rw [qeJ] at hF
 refine zSR (qM h rfl rfl ?_)
 intro w1 bb1 h
 refine qM h rfl rfl ?_
 intro w2 bb2 h
 refine zp1 rfl (zNSSR (zl 1 0 h rfl ?_))
 obtain ⟨r1, hr1, hF⟩ := qd hF
 refine ql r1 h call39 (qk4 (h.old ha1) hr1) rfl rfl rfl rfl ?_
 intro w3 h
 refine zp1 rfl (qb ?_)
 refine qq rfl hF ?_ ?_ <;> intro hF
 ·exact zSR (zp1 rfl (qb (qu qc h hF ⟨rfl, trivial⟩)))
 refine zKSR (zl 1 0 h rfl ?_)
 have hg1 : Rg (old w) w (old w) w := .start (fun _ h => h)
 obtain ⟨r2, hr2, hF⟩ := qd hF
 refine qqq r2 hg1 h call40 (qk7 (hg1.regOld h) (hg1.inR h ha1) hr2) rfl rfl rfl rfl ?_
 intro w4 us1 B1 hg2 hu1 hz1 hv1
 have s10 := Up.S hg1 h hu1 s9
 have hc2 := Up.box 0 h hu1 rfl
 have s11 := Up.S hg1 h hu1 s6
 have s12 := Up.S hg1 h hu1 s7
 have s13 := Up.S hg1 h hu1 s8
 have s14 := Up.R hg1 h hu1 ha2
 have ha4 := Up.boxP (x := a_e) hg1 0 h hu1 rfl (hg1.inR h ha2)
 have hb1 := h.below.trans (hu1.below.mono h.below.size)
 replace h := hz1
 obtain ⟨cs4, rfl, hr3⟩ := qlA hv1
 obtain ⟨p10, rfl, s15⟩ := qi6 hr3
 refine zp1 rfl (zNS ?_)
 refine qeO [] (fun w' => SH w4 w' []) rfl 25 rfl #[ff, ff, ff, ff, ff, ff, ff, ff, ff, ff, ff, ff, ff, ff, ff, ff, ff, ff, ff, ff, ff, ff, ff, ff, ff] (by kernel_rfl) (fun w5 hb => ?_)
 replace h := h.ext hb
 clear hb
 refine qi 0 rfl #[tt, ff, ff, ff, ff, ff, ff, ff, ff, ff, ff, ff, ff, ff, ff, ff, ff, ff, ff, ff, ff, ff, ff, ff, ff] (by kernel_rfl) (by kernel_rfl) (fun w' hw => v_p qc rfl w') (h.pick [] rfl) rfl ?_
 refine qi 1 rfl #[tt, tt, ff, ff, ff, ff, ff, ff, ff, ff, ff, ff, ff, ff, ff, ff, ff, ff, ff, ff, ff, ff, ff, ff, ff] (by kernel_rfl) (by kernel_rfl) (fun w' hw => qbj qc (hc2.below hw.below) (j := 0) rfl rfl rfl) (h.pick [] rfl) rfl ?_
 refine qab 2 rfl #[tt, tt, tt, ff, ff, ff, ff, ff, ff, ff, ff, ff, ff, ff, ff, ff, ff, ff, ff, ff, ff, ff, ff, ff, ff] (by kernel_rfl) (by kernel_rfl) ?_
 obtain ⟨r3, hr4, hF⟩ := qd hF
 refine ql r3 h call41 (qic (h.old (GoT.mono s15 hg2.old)) (h.old (GoT.mono s14 hg2.old)) hr4) rfl rfl rfl rfl ?_
 intro w6 h
 refine qW (fun _ => (h.pick [] rfl)) ?_
 refine qi 3 rfl #[tt, tt, tt, tt, ff, ff, ff, ff, ff, ff, ff, ff, ff, ff, ff, ff, ff, ff, ff, ff, ff, ff, ff, ff, ff] (by kernel_rfl) (by kernel_rfl) (fun w' hw => v_p qc rfl w') (h.pick [] rfl) rfl ?_
 by_cases hc3 : r3 = true
 ·replace hF := bifT hc3 hF
  refine qlx hc3 (t := 16) rfl ?_
  refine qbc 4 rfl (by kernel_rfl) #[tt, tt, tt, tt, tt, ff, ff, ff, ff, ff, ff, ff, ff, ff, ff, ff, ff, ff, ff, ff, ff, ff, ff, ff, ff] (by kernel_rfl) (by kernel_rfl) (fun w' hw => v_p qc rfl w') (h.pick [] rfl) rfl ?_
  refine qbc 5 rfl (by kernel_rfl) #[tt, tt, tt, tt, tt, tt, ff, ff, ff, ff, ff, ff, ff, ff, ff, ff, ff, ff, ff, ff, ff, ff, ff, ff, ff] (by kernel_rfl) (by kernel_rfl) (fun w' hw => v_p qc rfl w') (h.pick [] rfl) rfl ?_
  refine qab 6 rfl #[tt, tt, tt, tt, tt, tt, tt, ff, ff, ff, ff, ff, ff, ff, ff, ff, ff, ff, ff, ff, ff, ff, ff, ff, ff] (by kernel_rfl) (by kernel_rfl) ?_
  refine qa rfl ?_
  obtain ⟨r4, hr5, hF⟩ := qd hF
  refine ql r4 h call59 (qir (h.old (GoT.mono s15 hg2.old)) ⟨_, _, rfl, (h.oldS (s10.mono hg2.old))⟩ hr5) rfl rfl rfl rfl ?_
  intro w7 h
  refine qW (fun _ => (h.pick [] rfl)) ?_
  refine qi 7 rfl #[tt, tt, tt, tt, tt, tt, tt, tt, ff, ff, ff, ff, ff, ff, ff, ff, ff, ff, ff, ff, ff, ff, ff, ff, ff] (by kernel_rfl) (by kernel_rfl) (fun w' hw => v_p qc rfl w') (h.pick [] rfl) rfl ?_
  refine qi 8 rfl #[tt, tt, tt, tt, tt, tt, tt, tt, tt, ff, ff, ff, ff, ff, ff, ff, ff, ff, ff, ff, ff, ff, ff, ff, ff] (by kernel_rfl) (by kernel_rfl) (fun w' hw => v_p qc rfl w') (h.pick [] rfl) rfl ?_
  by_cases hc4 : r4 = true
  ·replace hF := bifT hc4 hF
   refine qlx hc4 (t := 21) rfl ?_
   refine qbc 9 rfl (by kernel_rfl) #[tt, tt, tt, tt, tt, tt, tt, tt, tt, tt, ff, ff, ff, ff, ff, ff, ff, ff, ff, ff, ff, ff, ff, ff, ff] (by kernel_rfl) (by kernel_rfl) (fun w' hw => qbj qc (hc2.below hw.below) (j := 0) rfl rfl rfl) (h.pick [] rfl) rfl ?_
   refine qbc 10 rfl (by kernel_rfl) #[tt, tt, tt, tt, tt, tt, tt, tt, tt, tt, tt, ff, ff, ff, ff, ff, ff, ff, ff, ff, ff, ff, ff, ff, ff] (by kernel_rfl) (by kernel_rfl) (fun w' hw => qbj qc (hc2.below hw.below) (j := 0) rfl rfl rfl) (h.pick [] rfl) rfl ?_
   refine qbc 12 rfl (by kernel_rfl) #[tt, tt, tt, tt, tt, tt, tt, tt, tt, tt, tt, ff, tt, ff, ff, ff, ff, ff, ff, ff, ff, ff, ff, ff, ff] (by kernel_rfl) (by kernel_rfl) (fun w' hw => v_p qc rfl w') (h.pick [] rfl) rfl ?_
   refine qbc 16 rfl (by kernel_rfl) #[tt, tt, tt, tt, tt, tt, tt, tt, tt, tt, tt, ff, tt, ff, ff, ff, tt, ff, ff, ff, ff, ff, ff, ff, ff] (by kernel_rfl) (by kernel_rfl) (fun w' hw => v_p qc rfl w') (h.pick [] rfl) rfl ?_
   refine qbc 17 rfl (by kernel_rfl) #[tt, tt, tt, tt, tt, tt, tt, tt, tt, tt, tt, ff, tt, ff, ff, ff, tt, tt, ff, ff, ff, ff, ff, ff, ff] (by kernel_rfl) (by kernel_rfl) (fun w' hw => v_p qc rfl w') (h.pick [] rfl) rfl ?_
   refine qbc 18 rfl (by kernel_rfl) #[tt, tt, tt, tt, tt, tt, tt, tt, tt, tt, tt, ff, tt, ff, ff, ff, tt, tt, tt, ff, ff, ff, ff, ff, ff] (by kernel_rfl) (by kernel_rfl) (fun w' hw => v_p qc rfl w') (h.pick [] rfl) rfl ?_
   refine qbc 19 rfl (by kernel_rfl) #[tt, tt, tt, tt, tt, tt, tt, tt, tt, tt, tt, ff, tt, ff, ff, ff, tt, tt, tt, tt, ff, ff, ff, ff, ff] (by kernel_rfl) (by kernel_rfl) (fun w' hw => v_p qc rfl w') (h.pick [] rfl) rfl ?_
   obtain ⟨y1, hy1, hF⟩ := qd hF
   have he1 := qg hy1
   obtain ⟨b1, o_1, q1, cs5, hp1, hq1, -, hr6, hc5⟩ := s10.at hy1
   obtain rfl := hr6
   refine qbc 20 rfl (by kernel_rfl) #[tt, tt, tt, tt, tt, tt, tt, tt, tt, tt, tt, ff, tt, ff, ff, ff, tt, tt, tt, tt, tt, ff, ff, ff, ff] (by kernel_rfl) (by kernel_rfl) (fun w' hw => qe3 qc hp1 hq1 ⟨he1.1, he1.2.1⟩ rfl rfl rfl rfl rfl rfl) (h.pick [] rfl) rfl ?_
   refine qbc 21 rfl (by kernel_rfl) #[tt, tt, tt, tt, tt, tt, tt, tt, tt, tt, tt, ff, tt, ff, ff, ff, tt, tt, tt, tt, tt, tt, ff, ff, ff] (by kernel_rfl) (by kernel_rfl) (fun w' hw => qbj qc (hc5.below hw.below) (j := 0) rfl rfl rfl) (h.pick [] rfl) rfl ?_
   refine qab 11 rfl #[tt, tt, tt, tt, tt, tt, tt, tt, tt, tt, tt, tt, tt, ff, ff, ff, tt, tt, tt, tt, tt, tt, ff, ff, ff] (by kernel_rfl) (by kernel_rfl) ?_
   refine qa rfl (qmn qc [.tmp 23] _ ([a_e] : List qm) h rfl rfl rfl rfl rfl rfl rfl rfl rfl ⟨(GoT.mono s14 hg2.old), trivial⟩ rfl ?_)
   intro w8 p11 S1 h
   refine qW (fun _ => (h.pick [] rfl)) ?_
   refine qab 13 rfl #[tt, tt, tt, tt, tt, tt, tt, tt, tt, tt, tt, tt, tt, tt, ff, ff, tt, tt, tt, tt, tt, tt, ff, ff, ff] (by kernel_rfl) (by kernel_rfl) ?_
   refine qa rfl ?_
   obtain ⟨r5, hr7, hF⟩ := qd hF
   refine qak r5 h call61 (qlW ⟨_, _, rfl, (h.rowS 0 rfl)⟩ ⟨_, _, rfl, (h.oldS (s10.mono hg2.old))⟩ hr7) rfl rfl rfl rfl ?_
   intro w9 S2 p12 k10 h
   refine qW (fun _ => (h.pick [] rfl)) ?_
   obtain ⟨y2, hy2, hF⟩ := qd hF
   have he2 := qg hy2
   obtain ⟨b2, o_2, q2, cs6, hp2, hq2, -, hr8, hc6⟩ := (h.sl 0 rfl).1.at hy2
   obtain rfl := hr8
   refine qbc 14 rfl (by kernel_rfl) #[tt, tt, tt, tt, tt, tt, tt, tt, tt, tt, tt, tt, tt, tt, tt, ff, tt, tt, tt, tt, tt, tt, ff, ff, ff] (by kernel_rfl) (by kernel_rfl) (fun w' hw => qe3 qc hp2 hq2 ⟨he2.1, qa0 he2.2.1 (h.sl 0 rfl).2⟩ rfl rfl rfl rfl rfl rfl) (h.pick [] rfl) rfl ?_
   refine qab 15 rfl #[tt, tt, tt, tt, tt, tt, tt, tt, tt, tt, tt, tt, tt, tt, tt, tt, tt, tt, tt, tt, tt, tt, ff, ff, ff] (by kernel_rfl) (by kernel_rfl) ?_
   refine qa rfl (zc 0 hc6 rfl ?_)
   refine qW (fun _ => (h.pick [] rfl)) ?_
   refine qab 22 rfl #[tt, tt, tt, tt, tt, tt, tt, tt, tt, tt, tt, tt, tt, tt, tt, tt, tt, tt, tt, tt, tt, tt, tt, ff, ff] (by kernel_rfl) (by kernel_rfl) ?_
   refine qa rfl ?_
   obtain ⟨r6, hr9, hF⟩ := qd hF
   refine ql r6 h call60 (qh0 (h.old (GoT.mono s14 hg2.old)) hr9) rfl rfl rfl rfl ?_
   intro w10 h
   refine qW (fun _ => (h.pick [] rfl)) ?_
   refine qi 23 rfl #[tt, tt, tt, tt, tt, tt, tt, tt, tt, tt, tt, tt, tt, tt, tt, tt, tt, tt, tt, tt, tt, tt, tt, tt, ff] (by kernel_rfl) (by kernel_rfl) (fun w' hw => v_p qc rfl w') (h.pick [] rfl) rfl ?_
   refine qi 24 rfl #[tt, tt, tt, tt, tt, tt, tt, tt, tt, tt, tt, tt, tt, tt, tt, tt, tt, tt, tt, tt, tt, tt, tt, tt, tt] (by kernel_rfl) (by kernel_rfl) (fun w' hw => v_p qc rfl w') (h.pick [] rfl) rfl ?_
   refine qcp (by kernel_rfl) ?_
   replace h := h.unbase hg2.below ⟨fun _ h => h, ⟨fun _ h => h, trivial⟩⟩
   exact qu qc h hF ⟨rfl, trivial⟩
  replace hc4 := zb hc4
  replace hF := bifF hc4 hF
  refine qlo hc4 (t := 21) rfl ?_
  refine qaF 9 rfl (by kernel_rfl) rfl #[tt, tt, tt, tt, tt, tt, tt, tt, tt, tt, ff, ff, ff, ff, ff, ff, ff, ff, ff, ff, ff, ff, ff, ff, ff] (by kernel_rfl) (by kernel_rfl) (h.pick [] rfl) rfl ?_
  refine qaF 10 rfl (by kernel_rfl) rfl #[tt, tt, tt, tt, tt, tt, tt, tt, tt, tt, tt, ff, ff, ff, ff, ff, ff, ff, ff, ff, ff, ff, ff, ff, ff] (by kernel_rfl) (by kernel_rfl) (h.pick [] rfl) rfl ?_
  refine qaF 11 rfl (by kernel_rfl) rfl #[tt, tt, tt, tt, tt, tt, tt, tt, tt, tt, tt, tt, ff, ff, ff, ff, ff, ff, ff, ff, ff, ff, ff, ff, ff] (by kernel_rfl) (by kernel_rfl) (h.pick [] rfl) rfl ?_
  refine qaF 12 rfl (by kernel_rfl) rfl #[tt, tt, tt, tt, tt, tt, tt, tt, tt, tt, tt, tt, tt, ff, ff, ff, ff, ff, ff, ff, ff, ff, ff, ff, ff] (by kernel_rfl) (by kernel_rfl) (h.pick [] rfl) rfl ?_
  refine qaF 13 rfl (by kernel_rfl) rfl #[tt, tt, tt, tt, tt, tt, tt, tt, tt, tt, tt, tt, tt, tt, ff, ff, ff, ff, ff, ff, ff, ff, ff, ff, ff] (by kernel_rfl) (by kernel_rfl) (h.pick [] rfl) rfl ?_
  refine qaF 14 rfl (by kernel_rfl) rfl #[tt, tt, tt, tt, tt, tt, tt, tt, tt, tt, tt, tt, tt, tt, tt, ff, ff, ff, ff, ff, ff, ff, ff, ff, ff] (by kernel_rfl) (by kernel_rfl) (h.pick [] rfl) rfl ?_
  refine qaF 15 rfl (by kernel_rfl) rfl #[tt, tt, tt, tt, tt, tt, tt, tt, tt, tt, tt, tt, tt, tt, tt, tt, ff, ff, ff, ff, ff, ff, ff, ff, ff] (by kernel_rfl) (by kernel_rfl) (h.pick [] rfl) rfl ?_
  refine qaF 16 rfl (by kernel_rfl) rfl #[tt, tt, tt, tt, tt, tt, tt, tt, tt, tt, tt, tt, tt, tt, tt, tt, tt, ff, ff, ff, ff, ff, ff, ff, ff] (by kernel_rfl) (by kernel_rfl) (h.pick [] rfl) rfl ?_
  refine qaF 17 rfl (by kernel_rfl) rfl #[tt, tt, tt, tt, tt, tt, tt, tt, tt, tt, tt, tt, tt, tt, tt, tt, tt, tt, ff, ff, ff, ff, ff, ff, ff] (by kernel_rfl) (by kernel_rfl) (h.pick [] rfl) rfl ?_
  refine qaF 18 rfl (by kernel_rfl) rfl #[tt, tt, tt, tt, tt, tt, tt, tt, tt, tt, tt, tt, tt, tt, tt, tt, tt, tt, tt, ff, ff, ff, ff, ff, ff] (by kernel_rfl) (by kernel_rfl) (h.pick [] rfl) rfl ?_
  refine qaF 19 rfl (by kernel_rfl) rfl #[tt, tt, tt, tt, tt, tt, tt, tt, tt, tt, tt, tt, tt, tt, tt, tt, tt, tt, tt, tt, ff, ff, ff, ff, ff] (by kernel_rfl) (by kernel_rfl) (h.pick [] rfl) rfl ?_
  refine qaF 20 rfl (by kernel_rfl) rfl #[tt, tt, tt, tt, tt, tt, tt, tt, tt, tt, tt, tt, tt, tt, tt, tt, tt, tt, tt, tt, tt, ff, ff, ff, ff] (by kernel_rfl) (by kernel_rfl) (h.pick [] rfl) rfl ?_
  refine qaF 21 rfl (by kernel_rfl) rfl #[tt, tt, tt, tt, tt, tt, tt, tt, tt, tt, tt, tt, tt, tt, tt, tt, tt, tt, tt, tt, tt, tt, ff, ff, ff] (by kernel_rfl) (by kernel_rfl) (h.pick [] rfl) rfl ?_
  refine qaF 22 rfl (by kernel_rfl) rfl #[tt, tt, tt, tt, tt, tt, tt, tt, tt, tt, tt, tt, tt, tt, tt, tt, tt, tt, tt, tt, tt, tt, tt, ff, ff] (by kernel_rfl) (by kernel_rfl) (h.pick [] rfl) rfl ?_
  refine qi 23 rfl #[tt, tt, tt, tt, tt, tt, tt, tt, tt, tt, tt, tt, tt, tt, tt, tt, tt, tt, tt, tt, tt, tt, tt, tt, ff] (by kernel_rfl) (by kernel_rfl) (fun w' hw => v_p qc rfl w') (h.pick [] rfl) rfl ?_
  refine qi 24 rfl #[tt, tt, tt, tt, tt, tt, tt, tt, tt, tt, tt, tt, tt, tt, tt, tt, tt, tt, tt, tt, tt, tt, tt, tt, tt] (by kernel_rfl) (by kernel_rfl) (fun w' hw => v_p qc rfl w') (h.pick [] rfl) rfl ?_
  refine qcp (by kernel_rfl) ?_
  replace h := h.unbase hg2.below (show NoD [] from trivial)
  exact qu qc h hF ⟨rfl, trivial⟩
 replace hc3 := zb hc3
 replace hF := bifF hc3 hF
 refine qlo hc3 (t := 16) rfl ?_
 refine qaF 4 rfl (by kernel_rfl) rfl #[tt, tt, tt, tt, tt, ff, ff, ff, ff, ff, ff, ff, ff, ff, ff, ff, ff, ff, ff, ff, ff, ff, ff, ff, ff] (by kernel_rfl) (by kernel_rfl) (h.pick [] rfl) rfl ?_
 refine qaF 5 rfl (by kernel_rfl) rfl #[tt, tt, tt, tt, tt, tt, ff, ff, ff, ff, ff, ff, ff, ff, ff, ff, ff, ff, ff, ff, ff, ff, ff, ff, ff] (by kernel_rfl) (by kernel_rfl) (h.pick [] rfl) rfl ?_
 refine qaF 6 rfl (by kernel_rfl) rfl #[tt, tt, tt, tt, tt, tt, tt, ff, ff, ff, ff, ff, ff, ff, ff, ff, ff, ff, ff, ff, ff, ff, ff, ff, ff] (by kernel_rfl) (by kernel_rfl) (h.pick [] rfl) rfl ?_
 refine qi 7 rfl #[tt, tt, tt, tt, tt, tt, tt, tt, ff, ff, ff, ff, ff, ff, ff, ff, ff, ff, ff, ff, ff, ff, ff, ff, ff] (by kernel_rfl) (by kernel_rfl) (fun w' hw => v_p qc rfl w') (h.pick [] rfl) rfl ?_
 refine qi 8 rfl #[tt, tt, tt, tt, tt, tt, tt, tt, tt, ff, ff, ff, ff, ff, ff, ff, ff, ff, ff, ff, ff, ff, ff, ff, ff] (by kernel_rfl) (by kernel_rfl) (fun w' hw => v_p qc rfl w') (h.pick [] rfl) rfl ?_
 refine qaF 9 rfl (by kernel_rfl) rfl #[tt, tt, tt, tt, tt, tt, tt, tt, tt, tt, ff, ff, ff, ff, ff, ff, ff, ff, ff, ff, ff, ff, ff, ff, ff] (by kernel_rfl) (by kernel_rfl) (h.pick [] rfl) rfl ?_
 refine qaF 10 rfl (by kernel_rfl) rfl #[tt, tt, tt, tt, tt, tt, tt, tt, tt, tt, tt, ff, ff, ff, ff, ff, ff, ff, ff, ff, ff, ff, ff, ff, ff] (by kernel_rfl) (by kernel_rfl) (h.pick [] rfl) rfl ?_
 refine qaF 11 rfl (by kernel_rfl) rfl #[tt, tt, tt, tt, tt, tt, tt, tt, tt, tt, tt, tt, ff, ff, ff, ff, ff, ff, ff, ff, ff, ff, ff, ff, ff] (by kernel_rfl) (by kernel_rfl) (h.pick [] rfl) rfl ?_
 refine qaF 12 rfl (by kernel_rfl) rfl #[tt, tt, tt, tt, tt, tt, tt, tt, tt, tt, tt, tt, tt, ff, ff, ff, ff, ff, ff, ff, ff, ff, ff, ff, ff] (by kernel_rfl) (by kernel_rfl) (h.pick [] rfl) rfl ?_
 refine qaF 13 rfl (by kernel_rfl) rfl #[tt, tt, tt, tt, tt, tt, tt, tt, tt, tt, tt, tt, tt, tt, ff, ff, ff, ff, ff, ff, ff, ff, ff, ff, ff] (by kernel_rfl) (by kernel_rfl) (h.pick [] rfl) rfl ?_
 refine qaF 14 rfl (by kernel_rfl) rfl #[tt, tt, tt, tt, tt, tt, tt, tt, tt, tt, tt, tt, tt, tt, tt, ff, ff, ff, ff, ff, ff, ff, ff, ff, ff] (by kernel_rfl) (by kernel_rfl) (h.pick [] rfl) rfl ?_
 refine qaF 15 rfl (by kernel_rfl) rfl #[tt, tt, tt, tt, tt, tt, tt, tt, tt, tt, tt, tt, tt, tt, tt, tt, ff, ff, ff, ff, ff, ff, ff, ff, ff] (by kernel_rfl) (by kernel_rfl) (h.pick [] rfl) rfl ?_
 refine qaF 16 rfl (by kernel_rfl) rfl #[tt, tt, tt, tt, tt, tt, tt, tt, tt, tt, tt, tt, tt, tt, tt, tt, tt, ff, ff, ff, ff, ff, ff, ff, ff] (by kernel_rfl) (by kernel_rfl) (h.pick [] rfl) rfl ?_
 refine qaF 17 rfl (by kernel_rfl) rfl #[tt, tt, tt, tt, tt, tt, tt, tt, tt, tt, tt, tt, tt, tt, tt, tt, tt, tt, ff, ff, ff, ff, ff, ff, ff] (by kernel_rfl) (by kernel_rfl) (h.pick [] rfl) rfl ?_
 refine qaF 18 rfl (by kernel_rfl) rfl #[tt, tt, tt, tt, tt, tt, tt, tt, tt, tt, tt, tt, tt, tt, tt, tt, tt, tt, tt, ff, ff, ff, ff, ff, ff] (by kernel_rfl) (by kernel_rfl) (h.pick [] rfl) rfl ?_
 refine qaF 19 rfl (by kernel_rfl) rfl #[tt, tt, tt, tt, tt, tt, tt, tt, tt, tt, tt, tt, tt, tt, tt, tt, tt, tt, tt, tt, ff, ff, ff, ff, ff] (by kernel_rfl) (by kernel_rfl) (h.pick [] rfl) rfl ?_
 refine qaF 20 rfl (by kernel_rfl) rfl #[tt, tt, tt, tt, tt, tt, tt, tt, tt, tt, tt, tt, tt, tt, tt, tt, tt, tt, tt, tt, tt, ff, ff, ff, ff] (by kernel_rfl) (by kernel_rfl) (h.pick [] rfl) rfl ?_
 refine qaF 21 rfl (by kernel_rfl) rfl #[tt, tt, tt, tt, tt, tt, tt, tt, tt, tt, tt, tt, tt, tt, tt, tt, tt, tt, tt, tt, tt, tt, ff, ff, ff] (by kernel_rfl) (by kernel_rfl) (h.pick [] rfl) rfl ?_
 refine qaF 22 rfl (by kernel_rfl) rfl #[tt, tt, tt, tt, tt, tt, tt, tt, tt, tt, tt, tt, tt, tt, tt, tt, tt, tt, tt, tt, tt, tt, tt, ff, ff] (by kernel_rfl) (by kernel_rfl) (h.pick [] rfl) rfl ?_
 refine qi 23 rfl #[tt, tt, tt, tt, tt, tt, tt, tt, tt, tt, tt, tt, tt, tt, tt, tt, tt, tt, tt, tt, tt, tt, tt, tt, ff] (by kernel_rfl) (by kernel_rfl) (fun w' hw => v_p qc rfl w') (h.pick [] rfl) rfl ?_
 refine qi 24 rfl #[tt, tt, tt, tt, tt, tt, tt, tt, tt, tt, tt, tt, tt, tt, tt, tt, tt, tt, tt, tt, tt, tt, tt, tt, tt] (by kernel_rfl) (by kernel_rfl) (fun w' hw => v_p qc rfl w') (h.pick [] rfl) rfl ?_
 refine qcp (by kernel_rfl) ?_
 replace h := h.unbase hg2.below (show NoD [] from trivial)
 exact qu qc h hF ⟨rfl, trivial⟩

def qdv (n : Nat) (aB : qy) (aE : qm) (aPath : (List Int)) : Option Bool :=
 bif decide ((aPath.length : Int) > 1048576) then
  some true
 else
  (qgz n aB 1048576).bind fun r1 =>
  bif decide (r1 < 0) then
   some true
  else
   (qeG n aE r1).bind fun r2 =>
   bif decide (r2 < 0) then
    some true
   else
    (qeV n aB).bind fun r3 =>
    (qc6 n aE).bind fun r4 =>
    (qaD n aPath).bind fun r5 =>
    (qeM n r3 r4 r5).bind fun r6 =>
    (qeV n aB).bind fun r7 =>
    (qc6 n aE).bind fun r8 =>
    (qaD n aPath).bind fun r9 =>
    (qeJ n r7 r8 r9).bind fun r10 =>
    bif (!(r10 == r6)) then
     some false
    else
     (qeV n aB).bind fun r11 =>
     (qgw n r7 r11).bind fun r12 =>
     bif (!r12) then
      some false
     else
      (qc6 n aE).bind fun r13 =>
      (qeD n r8 r13).bind fun r14 =>
      bif (!r14) then
       some false
      else
       (qaD n aPath).bind fun r15 =>
       (qaT n r9 r15).bind fun r16 =>
       bif (!r16) then
        some false
       else
        some true

theorem qhG {n : Nat} {w : World} {aB : qy} {aE : qm} {aPath : (List Int)} {cs1 : List Value} (ha1 : GoT.R w (old w) aB cs1) {cs2 : List Value} (ha2 : GoT.R w (old w) aE cs2) {cs3 : List Value} (ha3 : GoT.R w (old w) aPath cs3) {r : Bool} (hF : qdv n aB aE aPath = some r) : RetV Tryz.prog 7 [GoT.v qy cs1, GoT.v qm cs2, GoT.v (List Int) cs3] w r := by
 obtain ⟨p1, k1, p2, k2, p3, k3, p4, k4, p5, k5, rfl, s1, s2, s3, s4, s5⟩ := qas ha1
 obtain ⟨p6, k6, p7, k7, p8, k8, rfl, s6, s7, s8⟩ := qar ha2
 obtain ⟨p9, k9, rfl, s9⟩ := ha3
 refine qe Tryz.func7 rfl (m := 61) rfl rfl (fun h => ?_)
 rw [qdv] at hF
 refine zSR (qM h rfl rfl ?_)
 intro w1 bb1 h
 refine qM h rfl rfl ?_
 intro w2 bb2 h
 refine zp1 rfl (zNSSR (zp3 rfl (qb ?_)))
 refine qq rfl hF ?_ ?_ <;> intro hF
 ·exact zSR (zp1 rfl (qb (qu qc h hF ⟨rfl, trivial⟩)))
 refine zKSR (zp1 rfl (zNSR (zl 1 0 h rfl (zp1 rfl ?_))))
 obtain ⟨r1, hr1, hF⟩ := qd hF
 refine qQ r1 h call8 (qkZ (h.old ha1) hr1) rfl rfl rfl rfl ?_
 intro w3 h
 refine zp1 rfl (zNSSR (zp2 rfl (qb ?_)))
 refine qq rfl hF ?_ ?_ <;> intro hF
 ·exact zSR (zp1 rfl (qb (qu qc h hF ⟨rfl, trivial⟩)))
 refine zKSR (zl 0 0 h rfl (zp1 rfl ?_))
 obtain ⟨r2, hr2, hF⟩ := qd hF
 refine qQ r2 h call9 (qjG (h.old ha2) hr2) rfl rfl rfl rfl ?_
 intro w4 h
 refine zp1 rfl (zNSSR (zp2 rfl (qb ?_)))
 refine qq rfl hF ?_ ?_ <;> intro hF
 ·exact zSR (zp1 rfl (qb (qu qc h hF ⟨rfl, trivial⟩)))
 refine zKS ?_
 refine qeO [] (fun w' => SH w w' [Ch.box bb2 [.int .i64 aE.Kind, .int .i64 aE.Value, .slice p6 aE.From.length k6, .slice p7 aE.Through.length k7, .slice p8 aE.To.length k8] 35, Ch.box bb1 [.slice p1 aB.Library.Cells.length k1, .slice p2 aB.Design.Instances.length k2, .slice p3 aB.Design.Nets.length k3, .slice p4 aB.Design.Ports.length k4, .slice p5 aB.Wires.length k5] 32]) rfl 8 rfl #[ff, ff, ff, ff, ff, ff, ff, ff] (by kernel_rfl) (fun w5 hb => ?_)
 replace h := h.ext hb
 clear hb
 refine qi 0 rfl #[tt, ff, ff, ff, ff, ff, ff, ff] (by kernel_rfl) (by kernel_rfl) (fun w' hw => qbj qc (hw.box 1 rfl) (j := 0) rfl rfl rfl) (h.pick [0, 1] rfl) rfl ?_
 refine qi 2 rfl #[tt, ff, tt, ff, ff, ff, ff, ff] (by kernel_rfl) (by kernel_rfl) (fun w' hw => qbj qc (hw.box 0 rfl) (j := 0) rfl rfl rfl) (h.pick [0, 1] rfl) rfl ?_
 refine qi 4 rfl #[tt, ff, tt, ff, tt, ff, ff, ff] (by kernel_rfl) (by kernel_rfl) (fun w' hw => v_p qc rfl w') (h.pick [0, 1] rfl) rfl ?_
 refine qab 1 rfl #[tt, tt, tt, ff, tt, ff, ff, ff] (by kernel_rfl) (by kernel_rfl) ?_
 obtain ⟨r3, hr3, hF⟩ := qd hF
 refine qeY r3 h call11 (qho (h.old ha1) hr3) rfl rfl rfl rfl ?_
 intro w6 S1 cs4 h
 obtain ⟨p10, k10, p11, k11, p12, k12, p13, k13, p14, k14, rfl, -, -, -, -, -⟩ := qas (h.own 0 rfl)
 refine qW (fun _ => (h.pick [1, 2] rfl)) ?_
 refine qab 3 rfl #[tt, tt, tt, tt, tt, ff, ff, ff] (by kernel_rfl) (by kernel_rfl) ?_
 obtain ⟨r4, hr4, hF⟩ := qd hF
 refine qeY r4 h call12 (qfO (h.old ha2) hr4) rfl rfl rfl rfl ?_
 intro w7 S2 cs5 h
 obtain ⟨p15, k15, p16, k16, p17, k17, rfl, -, -, -⟩ := qar (h.own 0 rfl)
 refine qW (fun _ => (h.pick [2, 3] rfl)) ?_
 refine qab 5 rfl #[tt, tt, tt, tt, tt, tt, ff, ff] (by kernel_rfl) (by kernel_rfl) ?_
 obtain ⟨r5, hr5, hF⟩ := qd hF
 refine qak r5 h call27 (qaA ⟨_, _, rfl, (h.oldS s9)⟩ hr5) rfl rfl rfl rfl ?_
 intro w8 S3 p18 k18 h
 refine qW (fun _ => (h.pick [3, 4] rfl)) ?_
 refine qab 6 rfl #[tt, tt, tt, tt, tt, tt, tt, ff] (by kernel_rfl) (by kernel_rfl) ?_
 obtain ⟨r6, hr6, hF⟩ := qd hF
 refine ql r6 h call26 (qjE (h.own 2 rfl) (h.own 1 rfl) (h.own 0 rfl) hr6) rfl rfl rfl rfl ?_
 intro w9 h
 refine qW (fun _ => (h.pick [3, 4] rfl)) ?_
 refine qi 7 rfl #[tt, tt, tt, tt, tt, tt, tt, tt] (by kernel_rfl) (by kernel_rfl) (fun w' hw => v_p qc rfl w') (h.pick [3, 4] rfl) rfl ?_
 refine qcp (by kernel_rfl) ?_
 refine zSR (zl 4 0 h rfl ?_)
 obtain ⟨r7, hr7, hF⟩ := qd hF
 refine qeY r7 h call11 (qho (h.old ha1) hr7) rfl rfl rfl rfl ?_
 intro w10 S4 cs6 h
 obtain ⟨p19, k19, p20, k20, p21, k21, p22, k22, p23, k23, rfl, -, -, -, -, -⟩ := qas (h.own 0 rfl)
 refine qU qc h rfl rfl rfl ?_
 intro w11 bb3 h
 refine zs 0 h rfl ?_
 intro w12 h
 refine zNSR (zl 5 0 h rfl ?_)
 obtain ⟨r8, hr8, hF⟩ := qd hF
 refine qeY r8 h call12 (qfO (h.old ha2) hr8) rfl rfl rfl rfl ?_
 intro w13 S5 cs7 h
 obtain ⟨p24, k24, p25, k25, p26, k26, rfl, -, -, -⟩ := qar (h.own 0 rfl)
 refine qU qc h rfl rfl rfl ?_
 intro w14 bb4 h
 refine zs 0 h rfl ?_
 intro w15 h
 replace h : SH _ _ [Ch.box bb4 [.int .i64 r8.Kind, .int .i64 r8.Value, .slice p24 r8.From.length k24, .slice p25 r8.Through.length k25, .slice p26 r8.To.length k26] 50, Ch.own S5 (r8 : qm) [.int .i64 r8.Kind, .int .i64 r8.Value, .slice p24 r8.From.length k24, .slice p25 r8.Through.length k25, .slice p26 r8.To.length k26], Ch.box bb3 [.slice p19 r7.Library.Cells.length k19, .slice p20 r7.Design.Instances.length k20, .slice p21 r7.Design.Nets.length k21, .slice p22 r7.Design.Ports.length k22, .slice p23 r7.Wires.length k23] 48, Ch.own S4 (r7 : qy) [.slice p19 r7.Library.Cells.length k19, .slice p20 r7.Design.Instances.length k20, .slice p21 r7.Design.Nets.length k21, .slice p22 r7.Design.Ports.length k22, .slice p23 r7.Wires.length k23], Ch.own S3 (r5 : List Int) [.slice p18 r5.length k18], Ch.own S2 (r4 : qm) [.int .i64 r4.Kind, .int .i64 r4.Value, .slice p15 r4.From.length k15, .slice p16 r4.Through.length k16, .slice p17 r4.To.length k17], Ch.own S1 (r3 : qy) [.slice p10 r3.Library.Cells.length k10, .slice p11 r3.Design.Instances.length k11, .slice p12 r3.Design.Nets.length k12, .slice p13 r3.Design.Ports.length k13, .slice p14 r3.Wires.length k14], Ch.box bb2 [.int .i64 aE.Kind, .int .i64 aE.Value, .slice p6 aE.From.length k6, .slice p7 aE.Through.length k7, .slice p8 aE.To.length k8] 35, Ch.box bb1 [.slice p1 aB.Library.Cells.length k1, .slice p2 aB.Design.Instances.length k2, .slice p3 aB.Design.Nets.length k3, .slice p4 aB.Design.Ports.length k4, .slice p5 aB.Wires.length k5] 32] := h
 refine zNSR (zp1 rfl ?_)
 obtain ⟨r9, hr9, hF⟩ := qd hF
 refine qak r9 h call27 (qaA ⟨_, _, rfl, (h.oldS s9)⟩ hr9) rfl rfl rfl rfl ?_
 intro w16 S6 p27 k27 h
 refine zp1 rfl (zNSR (zl 3 0 h rfl (zl 1 0 h rfl (zp1 rfl ?_))))
 obtain ⟨r10, hr10, hF⟩ := qd hF
 refine ql r10 h call28 (qju (h.own 4 rfl) (h.own 2 rfl) (h.own 0 rfl) hr10) rfl rfl rfl rfl ?_
 intro w17 h
 refine zp1 rfl (zNSSR (zp3 rfl (qb ?_)))
 refine qq rfl hF ?_ ?_ <;> intro hF
 ·exact zSR (zp1 rfl (qb (qu qc h hF ⟨rfl, trivial⟩)))
 refine zKSS ?_
 refine qeO [] (fun w' => SH w w' [Ch.box bb3 [.slice p19 r7.Library.Cells.length k19, .slice p20 r7.Design.Instances.length k20, .slice p21 r7.Design.Nets.length k21, .slice p22 r7.Design.Ports.length k22, .slice p23 r7.Wires.length k23] 48, Ch.box bb1 [.slice p1 aB.Library.Cells.length k1, .slice p2 aB.Design.Instances.length k2, .slice p3 aB.Design.Nets.length k3, .slice p4 aB.Design.Ports.length k4, .slice p5 aB.Wires.length k5] 32]) rfl 5 rfl #[ff, ff, ff, ff, ff] (by kernel_rfl) (fun w18 hb => ?_)
 replace h := h.ext hb
 clear hb
 refine qi 0 rfl #[tt, ff, ff, ff, ff] (by kernel_rfl) (by kernel_rfl) (fun w' hw => qbj qc (hw.box 0 rfl) (j := 0) rfl rfl rfl) (h.pick [3, 9] rfl) rfl ?_
 refine qi 1 rfl #[tt, tt, ff, ff, ff] (by kernel_rfl) (by kernel_rfl) (fun w' hw => qbj qc (hw.box 1 rfl) (j := 0) rfl rfl rfl) (h.pick [3, 9] rfl) rfl ?_
 refine qab 2 rfl #[tt, tt, tt, ff, ff] (by kernel_rfl) (by kernel_rfl) ?_
 obtain ⟨r11, hr11, hF⟩ := qd hF
 refine qeY r11 h call11 (qho (h.old ha1) hr11) rfl rfl rfl rfl ?_
 intro w19 S7 cs8 h
 obtain ⟨p28, k28, p29, k29, p30, k30, p31, k31, p32, k32, rfl, -, -, -, -, -⟩ := qas (h.own 0 rfl)
 refine qW (fun _ => (h.pick [4, 10] rfl)) ?_
 refine qab 3 rfl #[tt, tt, tt, tt, ff] (by kernel_rfl) (by kernel_rfl) ?_
 obtain ⟨r12, hr12, hF⟩ := qd hF
 refine ql r12 h call14 (qkP (h.own 5 rfl) (h.own 0 rfl) hr12) rfl rfl rfl rfl ?_
 intro w20 h
 refine qW (fun _ => (h.pick [4, 10] rfl)) ?_
 refine qi 4 rfl #[tt, tt, tt, tt, tt] (by kernel_rfl) (by kernel_rfl) (fun w' hw => v_p qc rfl w') (h.pick [4, 10] rfl) rfl ?_
 refine qcp (by kernel_rfl) ?_
 refine qq rfl hF ?_ ?_ <;> intro hF
 ·exact zSR (zp1 rfl (qb (qu qc h hF ⟨rfl, trivial⟩)))
 refine zKSS ?_
 refine qeO [] (fun w' => SH w w' [Ch.box bb4 [.int .i64 r8.Kind, .int .i64 r8.Value, .slice p24 r8.From.length k24, .slice p25 r8.Through.length k25, .slice p26 r8.To.length k26] 50, Ch.box bb2 [.int .i64 aE.Kind, .int .i64 aE.Value, .slice p6 aE.From.length k6, .slice p7 aE.Through.length k7, .slice p8 aE.To.length k8] 35]) rfl 5 rfl #[ff, ff, ff, ff, ff] (by kernel_rfl) (fun w21 hb => ?_)
 replace h := h.ext hb
 clear hb
 refine qi 0 rfl #[tt, ff, ff, ff, ff] (by kernel_rfl) (by kernel_rfl) (fun w' hw => qbj qc (hw.box 0 rfl) (j := 0) rfl rfl rfl) (h.pick [2, 9] rfl) rfl ?_
 refine qi 1 rfl #[tt, tt, ff, ff, ff] (by kernel_rfl) (by kernel_rfl) (fun w' hw => qbj qc (hw.box 1 rfl) (j := 0) rfl rfl rfl) (h.pick [2, 9] rfl) rfl ?_
 refine qab 2 rfl #[tt, tt, tt, ff, ff] (by kernel_rfl) (by kernel_rfl) ?_
 obtain ⟨r13, hr13, hF⟩ := qd hF
 refine qeY r13 h call12 (qfO (h.old ha2) hr13) rfl rfl rfl rfl ?_
 intro w22 S8 cs9 h
 obtain ⟨p33, k33, p34, k34, p35, k35, rfl, -, -, -⟩ := qar (h.own 0 rfl)
 refine qW (fun _ => (h.pick [3, 10] rfl)) ?_
 refine qab 3 rfl #[tt, tt, tt, tt, ff] (by kernel_rfl) (by kernel_rfl) ?_
 obtain ⟨r14, hr14, hF⟩ := qd hF
 refine ql r14 h call15 (qjy (h.own 4 rfl) (h.own 0 rfl) hr14) rfl rfl rfl rfl ?_
 intro w23 h
 refine qW (fun _ => (h.pick [3, 10] rfl)) ?_
 refine qi 4 rfl #[tt, tt, tt, tt, tt] (by kernel_rfl) (by kernel_rfl) (fun w' hw => v_p qc rfl w') (h.pick [3, 10] rfl) rfl ?_
 refine qcp (by kernel_rfl) ?_
 refine qq rfl hF ?_ ?_ <;> intro hF
 ·exact zSR (zp1 rfl (qb (qu qc h hF ⟨rfl, trivial⟩)))
 refine zKSSR (zp2 rfl ?_)
 obtain ⟨r15, hr15, hF⟩ := qd hF
 refine qak r15 h call27 (qaA ⟨_, _, rfl, (h.oldS s9)⟩ hr15) rfl rfl rfl rfl ?_
 intro w24 S9 p36 k36 h
 obtain ⟨r16, hr16, hF⟩ := qd hF
 refine ql r16 h call22 (qaY (h.own 3 rfl) (h.own 0 rfl) hr16) rfl rfl rfl rfl ?_
 intro w25 h
 refine zp1 rfl (qb ?_)
 refine qq rfl hF ?_ ?_ <;> intro hF
 ·exact zSR (zp1 rfl (qb (qu qc h hF ⟨rfl, trivial⟩)))
 exact zKSR (zp1 rfl (qb (qu qc h hF ⟨rfl, trivial⟩)))

end Go.Fw


namespace Go.Fw
open Go
set_option maxRecDepth 100000

/-! ### Data paths -/

def hasI (xs : List Int) (y : Int) : Bool := xs.any fun x => x == y
theorem qkw {xs : List Int} {y : Int} (hl : xs.length ≤ 1048576) : Ev (fun n => qee n xs y) (ixL (fun x => x == y) xs) :=
  qeI (fin := (xs.length : Int)) (Lf := qdk xs y) (pf := fun _ x => some (x == y)) (fun _ _ => .done)
    (fun n => by simp only [qdk, qw (Nat.le_refl _), cond_false])
    (fun n j x hx => by
      have hj := (List.getElem?_eq_some_iff.1 hx).1
      simp only [qdk, qv hj, cond_true, qaS hx, Option.bind_some, qr (show j < 9223372036854775807 by omega)])
    (fun n => by unfold qee; congr 1; funext o; cases o <;> rfl)
theorem qi1 {xs : List Int} {y : Int} (hl : xs.length ≤ 1048576) : Ev (fun n => qbH n xs y) (hasI xs y) := by
  unfold qbH
  refine Ev.bind (b := ixL (fun x => y == x) xs) (qeI (fin := (xs.length : Int)) (Lf := qbo xs y) (pf := fun _ x => some (y == x)) (fun _ _ => .done)
    (fun n => by simp only [qbo, qw (Nat.le_refl _), cond_false])
    (fun n j x hx => by
      have hj := (List.getElem?_eq_some_iff.1 hx).1
      simp only [qbo, qv hj, cond_true, qaS hx, Option.bind_some, qr (show j < 9223372036854775807 by omega)])
    (fun n => by unfold qe2; congr 1; funext o; cases o <;> rfl)) (Ev.now ?_)
  rw [qid]
  unfold hasI
  congr 2
  funext x
  rw [Bool.eq_iff_iff, beq_iff_eq, beq_iff_eq]
  exact eq_comm
theorem qnW {p : Int → Bool} {xs : List Int} : decide (ixL p xs < 0) = !xs.any p := by
  rw [← qid, Bool.eq_iff_iff]; simp

def stepP (b : qy) (path : List Int) (j : Nat) : Bool := decide (j = 0) || hasI (succL b (at0 path (j - 1)).toNat) (at0 path j)
def dpathB (b : qy) (path : List Int) : Bool := lenB path 1 60 && (allN (fun j => inPl b (at0 path j)) path.length && allN (stepP b path) path.length)

theorem ql8 {b : qy} {V : Tview} {path : List Int} (h : blockB b = true) (hV : V.Block = b) (hP : V.places = places b.Design) (hl : path.length ≤ 1048576) : Ev (fun n => qdq n (some V) path) (dpathB b path) := by
  have hs := qaW (qbJ h)
  have hpl := qb6 hs
  unfold qdq dpathB
  simp only [qah, qbf, qdJ, Option.bind_some, hP, qbK (show (places b.Design).length ≤ 9223372036854775807 by omega), qby]
  rw [← Bool.and_assoc, show inI (path.length : Int) 1 60 = lenB path 1 60 from qk9 (lo := 1) (hi := 60)]
  refine Ev.guardB (Ev.orBP fun _ => Ev.neg ((qed hl).cast (by rw [qfU (d := 0)]; rfl))) fun hb => ?_
  rw [Bool.and_eq_true, qaQ] at hb
  obtain ⟨hlen, hin⟩ := hb
  have hlen' : 1 ≤ path.length := by unfold lenB at hlen; simp only [Bool.and_eq_true, decide_eq_true_eq] at hlen; exact hlen.1
  have hL := qm5 (Lf := qa6 (some V) path) (len := path.length) (i0 := 1) (f := stepP b path) (bad := false) (fin := .nxt (path.length : Int)) hlen'
    (Ev.succ (by simp only [qa6, qw (Nat.le_refl _), cond_false]; exact .done))
    (fun j h1 hj X hX => Ev.succ (by
      have hp : inPl b (at0 path (j - 1)) = true := hin (j - 1) (by omega)
      unfold inPl at hp
      rw [qcP] at hp
      have ep := qjS hp.1
      simp only [qa6, qv hj, cond_true, show (j : Int) - 1 = ((j - 1 : Nat) : Int) by omega, qez (show -9223372036854775808 ≤ ((j - 1 : Nat) : Int) by omega) (by omega), qr (show j < 9223372036854775807 by omega), qbm (show j - 1 < path.length by omega), qbm hj, Option.bind_some]
      unfold stepP
      rw [show decide (j = 0) = false by simp; omega, Bool.false_or]
      refine Ev.bind (b := succL b (at0 path (j - 1)).toNat) ?_ ?_
      · have := qlU h hV hP (j := (at0 path (j - 1)).toNat) (by omega)
        rw [← ep] at this
        exact this
      · exact Ev.chk1 (qi1 (by have := qmh h (j := (at0 path (j - 1)).toNat); omega)) fun _ => hX))
  have e : allN (fun j => stepP b path (1 + j)) (path.length - 1) = allN (stepP b path) path.length := by
    rw [Bool.eq_iff_iff, qaQ, qaQ]
    constructor
    · intro h j hj
      cases j with
      | zero => rfl
      | succ j => have := h j (by omega); rwa [Nat.add_comm] at this
    · intro h j hj
      exact h (1 + j) (by omega)
  rw [e] at hL
  refine Ev.bind hL ?_
  cases allN (stepP b path) path.length <;> exact .done

theorem qly {b : qy} {path : List Int} (hok : qfx b) (hl : path.length ≤ 1048576) : Ev (fun n => qe8 n b path) (blockB b && dpathB b path) := by
  unfold qe8 dpathB
  rw [← Bool.and_assoc, ← qhU]
  refine Ev.guardB ?_ fun hb => ?_
  · unfold lenB
    rw [show decide ((path.length : Int) < 1) = !decide (1 ≤ path.length) from qoA (k := 1), show decide ((path.length : Int) > 60) = !decide (path.length ≤ 60) from qm6 (k := 60)]
    refine Ev.or (qkB hok) fun _ => ?_
    simp only [qby]
    exact Ev.orBP fun _ => .done
  · rw [Bool.and_eq_true] at hb
    have h := hb.1
    have hs := qaW (qbJ h)
    have hpl := qb6 hs
    have hL : Ev (fun n => qbi b path n 0) (bif allN (fun j => inPl b (at0 path j) && stepP b path j) path.length then .nxt (path.length : Int) else .ret false) := by
      refine loopN (τ := Unit) (Lf := fun n _ j => qbi b path n j) (S := fun _ => ()) (fun j => inPl b (at0 path j) && stepP b path j) (fun n => ?_) (fun j hj hp X hX => ?_)
      · simp only [qbi, qw (Nat.le_refl _), cond_false]
      · simp only [qbi, qv hj, cond_true, qbm hj, Option.bind_some, qdO, qr (show j < 9223372036854775807 by omega)]
        have e1 : Ev (fun n => qdI n b) ((places b.Design).length : Int) := by
          unfold qdI
          exact Ev.bind (qgU hs) (Ev.now (by rw [List.length_map]))
        refine Ev.bind e1 ?_
        rw [qbK (show (places b.Design).length ≤ 9223372036854775807 by omega)]
        simp only [qby]
        refine Ev.okP fun hin => ?_
        have hX := fun hst => hX (by rw [Bool.and_eq_true]; exact ⟨hin, hst⟩)
        unfold stepP at hX ⊢
        by_cases h0 : j = 0
        · subst h0
          refine Ev.ff (by decide) ?_
          exact hX rfl
        · have hq := hp (j - 1) (by omega)
          rw [Bool.and_eq_true] at hq
          have hq := hq.1
          unfold inPl at hq
          rw [qcP] at hq
          have ep := qjS hq.1
          rw [show decide (j = 0) = false by simp; omega, Bool.false_or] at hX ⊢
          refine Ev.tt (by simp; omega) ?_
          rw [qbK (show j ≤ 9223372036854775807 by omega), show (j : Int) - 1 = ((j - 1 : Nat) : Int) by omega, qbm (show j - 1 < path.length by omega)]
          simp only [Option.bind_some]
          refine Ev.bind (b := succL b (at0 path (j - 1)).toNat) ?_ (Ev.bind (qkw (by have := qmh h (j := (at0 path (j - 1)).toNat); omega)) ?_)
          · have := qno hok h (j := (at0 path (j - 1)).toNat) (by omega)
            rw [← ep] at this
            exact this
          · rw [qnW]
            simp only [qby]
            exact Ev.okP1 hX
    refine Ev.bind hL ?_
    cases allN (fun j => inPl b (at0 path j) && stepP b path j) path.length <;> exact .done


/-! ### Tags -/

instance : Inhabited qm := ⟨⟨0, 0, [], [], []⟩⟩
def stepT (e : qm) (found place : Int) : Int := bif decide (found ≥ 0) && (decide (found < (e.Through.length : Int)) && (at0 e.Through found.toNat == place)) then found + 1 else found
def fromB (e : qm) (p : Int) : Bool := decide (e.From.length = 0) || hasI e.From p
def toB (e : qm) (p : Int) : Bool := decide (e.To.length = 0) || hasI e.To p
def beginT (e : qm) (p : Int) : Int := bif fromB e p then stepT e 0 p else -1
def runT (e : qm) (path : List Int) : Int := (path.drop 1).foldl (stepT e) (beginT e (at0 path 0))
def matT (e : qm) (found p : Int) : Bool := (found == (e.Through.length : Int)) && toB e p
def lastP (path : List Int) : Int := at0 path (path.length - 1)
def matchB (e : qm) (path : List Int) : Bool := (fromB e (at0 path 0) && toB e (lastP path)) && (path.foldl (stepT e) 0 == (e.Through.length : Int))

theorem qpK {e : qm} {found p : Int} (h : 0 ≤ found) : 0 ≤ stepT e found p := by
  unfold stepT
  cases decide (found ≥ 0) && (decide (found < (e.Through.length : Int)) && (at0 e.Through found.toNat == p)) <;> simp only [cond_true, cond_false] <;> omega
theorem qo0 {e : qm} {p : Int} : stepT e (-1) p = -1 := rfl
theorem qpr {e : qm} {path : List Int} : path.foldl (stepT e) (-1) = -1 := by
  induction path with
  | nil => rfl
  | cons p path ih => rw [List.foldl_cons, qo0]; exact ih
theorem qou {e : qm} {found p : Int} (hl : e.Through.length ≤ 1048576) : Ev (fun n => qb7 n e found p) (stepT e found p) := by
  unfold qb7 stepT
  simp only [qah, Option.bind_some]
  cases h1 : decide (found ≥ 0)
  · exact .done
  · cases h2 : decide (found < (e.Through.length : Int))
    · exact .done
    · have h1 := of_decide_eq_true h1
      have h2 := of_decide_eq_true h2
      simp only [cond_true, Bool.true_and]
      obtain ⟨k, rfl⟩ : ∃ k : Nat, found = (k : Int) := ⟨found.toNat, by omega⟩
      rw [qbm (show k < e.Through.length by omega), Int.toNat_natCast]
      simp only [Option.bind_some]
      cases (at0 e.Through k == p)
      · exact .done
      · exact Ev.now (by rw [qez (by omega) (by omega)]; rfl)
theorem qpe {e : qm} {p : Int} (he : qcG e) : Ev (fun n => qdr n e p) (beginT e p) := by
  unfold qdr beginT fromB
  have hs := qou (found := 0) (p := p) he.Through.len
  by_cases h0 : e.From.length = 0
  · exact Ev.ff (by simp [h0]) (by rw [decide_eq_true h0]; exact Ev.bind hs .done)
  · refine Ev.tt (by simp; omega) ?_
    rw [decide_eq_false h0, Bool.false_or]
    refine Ev.bind (qi1 he.From.len) ?_
    cases hasI e.From p
    · exact .done
    · exact Ev.ff rfl (Ev.bind hs .done)
theorem qod {e : qm} {found p : Int} (he : qcG e) : Ev (fun n => qcC n e found p) (matT e found p) := by
  unfold qcC matT toB
  simp only [qah, Option.bind_some]
  refine Ev.andP fun _ => ?_
  by_cases h0 : e.To.length = 0
  · exact Ev.tt (by simp [h0]) (by rw [decide_eq_true h0]; exact .done)
  · refine Ev.ff (by rw [Bool.eq_false_iff, Ne, beq_iff_eq]; omega) ?_
    rw [decide_eq_false h0, Bool.false_or]
    exact Ev.last (qi1 he.To.len)

theorem qo8 {α : Type} {xs : List α} (h : 1 ≤ xs.length) : subS xs 1 (xs.length : Int) = some (xs.drop 1) := by
  unfold subS
  rw [if_pos ⟨by omega, by omega, by omega⟩]
  simp
theorem qmj {e : qm} {xs : List Int} {i0 : Int} {j : Nat} (h : j < xs.length) : stepT e ((xs.take j).foldl (stepT e) i0) (at0 xs j) = (xs.take (j + 1)).foldl (stepT e) i0 := by
  rw [List.take_succ_eq_append_getElem h, List.foldl_append]
  simp [at0, h]
theorem qnU {e : qm} {xs : List Int} {i0 : Int} (he : qcG e) (hl : xs.length ≤ 1048576) : Ev (fun n => qde e xs n i0 0) (xs.foldl (stepT e) i0, (xs.length : Int)) := by
  have := loopF (Lf := qde e xs) (S := fun j => (xs.take j).foldl (stepT e) i0) (len := xs.length) (fin := (xs.foldl (stepT e) i0, (xs.length : Int)))
    (fun n => by simp only [qde, qw (Nat.le_refl _), cond_false, List.take_length])
    (fun j hj X hX => by
      simp only [qde, qv hj, cond_true, qbm hj, Option.bind_some, qr (show j < 9223372036854775807 by omega)]
      refine Ev.bind (qou he.Through.len) ?_
      rw [qmj hj]
      exact hX)
  simpa using this
theorem qpy {es : List qm} {path : List Int} (he : okL qcG es) (h1 : 1 ≤ path.length) (hl : path.length ≤ 1048576) : Ev (fun n => qhT n es path) (es.map fun e => runT e path) := by
  have hes := he.len
  have hL : Ev (fun n => qdb es path n ([] : List Int) 0) (es.map (fun e => runT e path), (es.length : Int)) := by
    refine loopF (Lf := qdb es path) (S := fun j => (es.take j).map fun e => runT e path) (len := es.length) (fun n => ?_) (fun j hj X hX => ?_)
    · simp only [qdb, qw (Nat.le_refl _), cond_false, List.take_length]
    · have ha : appS ((es.take j).map fun e => runT e path) [runT (gt es j) path] = some ((es.take (j + 1)).map fun e => runT e path) := by
        rw [qd0 (by rw [List.length_map, List.length_take, List.length_singleton]; omega), qeQ hj]
      have hd : (path.drop 1).length ≤ 1048576 := by rw [List.length_drop]; omega
      simp only [qdb, qv hj, cond_true, qal hj, Option.bind_some, qr (show j < 9223372036854775807 by omega), qo8 h1, show idx path 0 = some (at0 path 0) from qbm (j := 0) (by omega)]
      refine Ev.bind (qpe (qiu he hj)) (Ev.bind (qnU (qiu he hj) hd) ?_)
      exact Ev.bindN ha hX
  unfold qhT
  exact Ev.bind hL .done

theorem qnH {e : qm} {path : List Int} (he : qcG e) (h1 : 1 ≤ path.length) (hl : path.length ≤ 1048576) : Ev (fun n => qfa n e path) (matchB e path) := by
  have i0 : idx path 0 = some (at0 path 0) := qbm (j := 0) (by omega)
  have iE : idx path (W64 ((path.length : Int) - 1)) = some (lastP path) := by
    rw [qbK (by omega), show (path.length : Int) - 1 = ((path.length - 1 : Nat) : Int) by omega, qbm (by omega)]; rfl
  have hTo : Ev (fun n => bif decide ((e.To.length : Int) > 0) then (qee n e.To (lastP path)).bind fun r => some (decide (r < 0)) else some false) (!toB e (lastP path)) := by
    unfold toB
    by_cases h0 : e.To.length = 0
    · exact Ev.ff (by simp [h0]) (Ev.now (by rw [decide_eq_true h0]; rfl))
    · refine Ev.tt (by simp; omega) ?_
      rw [decide_eq_false h0, Bool.false_or]
      exact Ev.bind (qkw he.To.len) (Ev.now (by rw [qnW]; rfl))
  have hL : Ev (fun n => qa1 e path n 0 0) (path.foldl (stepT e) 0, (path.length : Int)) := by
    have := loopF (Lf := qa1 e path) (S := fun j => (path.take j).foldl (stepT e) 0) (len := path.length) (fin := (path.foldl (stepT e) 0, (path.length : Int)))
      (fun n => by simp only [qa1, qw (Nat.le_refl _), cond_false, List.take_length])
      (fun j hj X hX => by
        have hge : ∀ (xs : List Int) i, 0 ≤ i → 0 ≤ xs.foldl (stepT e) i := by
          intro xs
          induction xs with
          | nil => exact fun i h => h
          | cons x xs ih => exact fun i h => by rw [List.foldl_cons]; exact ih _ (qpK h)
        have hf := hge (path.take j) 0 (by omega)
        have hT := he.Through.len
        simp only [qa1, qv hj, cond_true, qr (show j < 9223372036854775807 by omega)]
        rw [← qmj hj] at hX
        revert hX hf
        generalize (path.take j).foldl (stepT e) 0 = f
        intro hX hf
        unfold stepT at hX
        rw [show decide (f ≥ 0) = true by simpa using hf, Bool.true_and] at hX
        cases h2 : decide (f < (e.Through.length : Int))
        · rw [h2] at hX; exact hX
        · rw [h2, Bool.true_and] at hX
          have h2 := of_decide_eq_true h2
          obtain ⟨k, rfl⟩ : ∃ k : Nat, f = (k : Int) := ⟨f.toNat, by omega⟩
          rw [Int.toNat_natCast] at hX
          rw [qez (show -9223372036854775808 ≤ (k : Int) + 1 by omega) (by omega)]
          simp only [cond_true, qbm (show k < e.Through.length by omega), qbm hj, Option.bind_some]
          cases h3 : (at0 e.Through k == at0 path j)
          · rw [h3] at hX; exact hX
          · rw [h3] at hX; exact hX)
    simpa using this
  unfold qfa matchB
  simp only [i0, iE, Option.bind_some]
  refine Ev.guardB ?_ fun _ => Ev.bind hL .done
  unfold fromB
  by_cases h0 : e.From.length = 0
  · refine Ev.ff (by simp [h0]) ?_
    rw [decide_eq_true h0, Bool.true_or, Bool.true_and]
    exact hTo
  · refine Ev.tt (by simp; omega) ?_
    rw [decide_eq_false h0, Bool.false_or]
    refine Ev.bind (qkw he.From.len) ?_
    rw [qnW]
    show Ev _ (!(hasI e.From (at0 path 0) && _))
    unfold hasI
    cases e.From.any fun x => x == at0 path 0
    · exact .done
    · exact hTo

theorem qpt {e : qm} {path : List Int} (h1 : 1 ≤ path.length) : matT e (runT e path) (lastP path) = matchB e path := by
  cases path with
  | nil => simp at h1
  | cons p path =>
    unfold matT matchB runT beginT
    rw [show at0 (p :: path) 0 = p from rfl, List.drop_one, List.tail_cons, List.foldl_cons]
    cases fromB e p
    · simp only [cond_false, qpr, Bool.false_and]
      rw [show ((-1 : Int) == (e.Through.length : Int)) = false by rw [Bool.eq_false_iff, Ne, beq_iff_eq]; omega, Bool.false_and]
    · simp only [cond_true, Bool.true_and]
      rw [Bool.and_comm]

def matchesB (b : qy) (e : qm) (path : List Int) : Bool := (blockB b && excB b e) && (dpathB b path && matchB e path)
theorem qlI {b : qy} {path : List Int} (h : dpathB b path = true) : 1 ≤ path.length ∧ path.length ≤ 60 := by
  unfold dpathB lenB at h
  simp only [Bool.and_eq_true, decide_eq_true_eq] at h
  exact h.1
theorem qkH {b : qy} {e : qm} {path : List Int} (hok : qfx b) (he : qcG e) (hl : path.length ≤ 1048576) : Ev (fun n => qeM n b e path) (matchesB b e path) := by
  unfold qeM matchesB
  refine Ev.and (qkI hok he) fun h => ?_
  rw [Bool.and_eq_true] at h
  have := qly (path := path) hok hl
  rw [h.1, Bool.true_and] at this
  exact Ev.and this fun hd => Ev.last (qnH he (qlI hd).1 hl)
theorem qlR {b : qy} {e : qm} {path : List Int} (hok : qfx b) (he : qcG e) (hl : path.length ≤ 1048576) : Ev (fun n => qeJ n b e path) (matchesB b e path) := by
  unfold qeJ matchesB
  rw [Bool.and_assoc]
  refine Ev.bind (qn8 hok) ?_
  cases h : blockB b
  · exact .done
  · refine Ev.ff rfl ?_
    rw [Bool.true_and]
    obtain ⟨ls, lo, de, ev⟩ := qnR h
    refine Ev.bind ev (Ev.and (qlJ h rfl he) fun _ => Ev.and (ql8 h rfl rfl hl) fun hd => ?_)
    obtain ⟨h1, h60⟩ := qlI hd
    have hes : okL qcG [e] := ⟨by simp, fun x hx => by rw [List.mem_singleton.1 hx]; exact he⟩
    have iE : idx path (W64 ((path.length : Int) - 1)) = some (lastP path) := by
      rw [qbK (by omega), show (path.length : Int) - 1 = ((path.length - 1 : Nat) : Int) by omega, qbm (by omega)]; rfl
    rw [iE]
    simp only [Option.bind_some]
    refine Ev.bind (qpy hes h1 hl) (Ev.bindN (b := runT e path) rfl (Ev.last ((qod he).cast (qpt h1))))

theorem qkR {b : qy} {e : qm} {path : List Int} (hb : qjn b) (hk : qg8 e) (hp : (rngL rngI) path) : Ev (fun n => qdv n b e path) true := by
  unfold qdv
  by_cases hlen : path.length ≤ 1048576
  · refine Ev.ff (by simp; omega) ?_
    obtain ⟨r1, e1, q1⟩ := qpR (a := b) (left := 1048576) hb (by omega) (by omega)
    refine Ev.bind e1 ?_
    rcases q1 with q1 | ⟨p1, q1⟩
    · exact Ev.tt (by simpa using q1) .done
    · refine Ev.ff (by simp; omega) ?_
      obtain ⟨r2, e2, q2⟩ := qmZ (a := e) (left := r1) hk p1 (by omega)
      refine Ev.bind e2 ?_
      rcases q2 with q2 | ⟨p2, q2⟩
      · exact Ev.tt (by simpa using q2) .done
      · refine Ev.ff (by simp; omega) ?_
        have wb : qgM b ≤ 1048576 := by omega
        have wk : qds e ≤ 1048576 := by omega
        have wp : qcr path ≤ 1048576 := hlen
        have hok := qog hb wb
        have he := qlE hk wk
        exact Ev.bind (qlp wb) (Ev.bind (qiJ wk) (Ev.bind (qc5 wp) (Ev.bind (qkH hok he hlen) (Ev.bind (qlp wb) (Ev.bind (qiJ wk) (Ev.bind (qc5 wp) (Ev.bind (qlR hok he hlen) (Ev.ff (by simp) (Ev.bind (qlp wb) (Ev.bind (qpl wb) (Ev.ff rfl (Ev.bind (qiJ wk) (Ev.bind (qm4 wk) (Ev.ff rfl (Ev.bind (qc5 wp) (Ev.bind (qdM wp) (Ev.ff rfl .done)))))))))))))))))
  · exact Ev.tt (by simp; omega) .done
end Go.Fw
