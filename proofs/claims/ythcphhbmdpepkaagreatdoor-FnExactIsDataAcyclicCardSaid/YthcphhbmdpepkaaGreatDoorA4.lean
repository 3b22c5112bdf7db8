/- By a program of mine (gen.py): for each function a plain function and the proof that the code computes it. -/
import Derived.Test.YthcphhbmdpepkaaGreatDoorA2

namespace Go.Fw
open Go Go.Proofs
open Go.RowKit (Below)
set_option maxRecDepth 100000
def qb4 (a_0 : qA) (i1 : Int) (y1 : qX) : Nat → Int → Option (Flow Bool Int)
 | 0, _ => none
 | n + 1, i2 =>
  bif decide (i2 < i1) then
   (idx a_0.Arcs i2).bind fun y2 =>
   bif (y2.Kind == y1.Kind) then
    (idx a_0.Arcs i2).bind fun y3 =>
    bif (y3.From == y1.From) then
     (idx a_0.Arcs i2).bind fun y4 =>
     bif (y4.To == y1.To) then
      some (.ret false)
     else
      qb4 a_0 i1 y1 n (W64 (i2 + 1))
    else
     qb4 a_0 i1 y1 n (W64 (i2 + 1))
   else
    qb4 a_0 i1 y1 n (W64 (i2 + 1))
  else
   some (.nxt i2)

def qc1 (a_0 : qA) : Nat → Int → Option (Flow Bool Int)
 | 0, _ => none
 | n + 1, i3 =>
  bif decide (i3 < (a_0.Truth.length : Int)) then
   (idx a_0.Truth i3).bind fun y5 =>
   (qaN n y5 0 1).bind fun r6 =>
   bif (!r6) then
    some (.ret false)
   else
    qc1 a_0 n (W64 (i3 + 1))
  else
   some (.nxt i3)

def qda (a_0 : qA) : Nat → Int → Option (Flow Bool Int)
 | 0, _ => none
 | n + 1, i1 =>
  bif decide (i1 < (a_0.Arcs.length : Int)) then
   (idx a_0.Arcs i1).bind fun y1 =>
   (qgL n a_0 y1).bind fun r4 =>
   bif (!r4) then
    some (.ret false)
   else
    (qb4 a_0 i1 y1 n 0).bind fun o => match o with
    | .ret r => some (.ret r)
    | .nxt _ =>
     qda a_0 n (W64 (i1 + 1))
  else
   some (.nxt i1)

def qgQ (n : Nat) (a_0 : qA) : Option Bool :=
 (qgm n a_0).bind fun o => match o with
  | (r2, r3) =>
   (
    bif (!r3) then
     some true
    else
     (qer n a_0.Name).bind fun r7 =>
     bif (!r7) then
      some true
     else
      bif decide ((a_0.Arcs.length : Int) > 8) then
       some true
      else
       (qaN n a_0.Leak 0 100000).bind fun r8 =>
       bif (!r8) then
        some true
       else
        (qaN n a_0.Energy 0 100000).bind fun r9 =>
        some (!r9)).bind fun b1 =>
   bif b1 then
    some false
   else
    (qda a_0 n 0).bind fun o => match o with
    | .ret r => some r
    | .nxt _ =>
     (qfD n a_0).bind fun r5 =>
     bif (a_0.Kind == 1) then
      (qc1 a_0 n 0).bind fun o => match o with
      | .ret r => some r
      | .nxt _ =>
       bif (r2 == 0) then
        (shlS 1 (IntKind.wrap .u64 (W64 ((a_0.Pins.length : Int) - 1)))).bind fun y6 =>
        some ((a_0.Truth.length : Int) == y6)
       else
        some false
     else
      bif (a_0.Kind == 2) then
       bif (r2 == 1) then
        (idx r5 1).bind fun y7 =>
        bif (y7 == 0) then
         (idx r5 2).bind fun y8 =>
         (idx r5 3).bind fun y9 =>
         bif (!((decide (y8 > 0)) == (decide (y9 > 0)))) then
          some ((a_0.Truth.length : Int) == 0)
         else
          some false
        else
         some false
       else
        some false
      else
       bif (a_0.Kind == 3) then
        bif (r2 == 1) then
         (idx r5 1).bind fun y10 =>
         bif decide (y10 > 0) then
          (idx r5 2).bind fun y11 =>
          bif decide (y11 > 0) then
           (idx r5 3).bind fun y12 =>
           bif (y12 == 0) then
            some ((a_0.Truth.length : Int) == 0)
           else
            some false
          else
           some false
         else
          some false
        else
         some false
       else
        some false

theorem qlg {n : Nat} {w : World} {a_0 : qA} {cs1 : List Value} (ha1 : GoT.R w (old w) a_0 cs1) {r : Bool} (hF : qgQ n a_0 = some r) : RetV Tryz.prog 149 [GoT.v qA cs1] w r := by
 obtain ⟨p1, k1, p2, k2, p3, k3, rfl, s1, s2, s3⟩ := qS ha1
 refine qe Tryz.func149 rfl (m := 182) rfl rfl (fun h => ?_)
 rw [qgQ] at hF
 refine zSR (qO h rfl rfl ?_)
 intro w1 bb1 h
 refine zp1 rfl (zNSR (zl 0 0 h rfl ?_))
 obtain ⟨r1, hr1, hF⟩ := qd hF
 obtain ⟨r2, r3⟩ := r1
 refine qg3 (r2, r3) h call165 (qkF (h.old ha1) hr1) rfl rfl rfl rfl ?_
 intro w2 S1 us1 hv1 hr2
 obtain ⟨S2, us2, rfl, hv2, hr3⟩ := hv1.consI hr2
 obtain ⟨rfl, h⟩ := hv2.lastB hr3
 refine zp5 rfl (zNSS ?_)
 obtain ⟨KF1, hKF1, o4, hF, hK4⟩ := bindE hF
 refine qeA (fun e w' => ∃ (b1 : Bool), KF1 b1 = some r ∧ e = [(1, .pointer (some ⟨bb1, 0, none⟩)), (3, .int .i64 r2), (40, .bool b1)] ∧ SH w w' [Ch.box bb1 [.string a_0.Name, .int .i64 a_0.Kind, .slice p1 a_0.Pins.length k1, .slice p2 a_0.Arcs.length k2, .slice p3 a_0.Truth.length k3, .int .i64 a_0.Leak, .int .i64 a_0.Energy] 155]) ?_ ?_
 ·refine qB (zp3 rfl ?_)
  by_cases hc32 : (!r3) = true
  ·replace hF := bifT hc32 hF
   refine qD hc32 (t := 17) rfl (zn4 rfl (zp2 rfl (zn4 rfl (zp1 rfl ?_))))
   refine zp1 rfl (zn4 rfl (zp2 rfl (zn4 rfl (zp1 rfl ?_))))
   refine qb ?_
   obtain rfl := qi hF
   exact qz [(1, _), (3, _), (40, _)] ⟨rfl, rfl, rfl, trivial⟩ ⟨_, hK4, rfl, h⟩
  replace hc32 := zb hc32
  replace hF := bifF hc32 hF
  refine qC hc32 (t := 17) rfl (qa rfl (zp1 rfl (qa rfl (zl 0 0 h rfl (qa rfl ?_)))))
  obtain ⟨r7, hr19, hF⟩ := qd hF
  refine qt r7 h call150 (qgZ hr19) rfl rfl rfl rfl ?_
  intro w18 h
  refine qa rfl (zp3 rfl ?_)
  by_cases hc33 : (!r7) = true
  ·replace hF := bifT hc33 hF
   refine qD hc33 (t := 23) rfl (zn4 rfl (zp2 rfl (zn4 rfl (zp1 rfl ?_))))
   refine zp1 rfl (zn4 rfl (zp1 rfl (qb ?_)))
   obtain rfl := qi hF
   exact qz [(1, _), (3, _), (40, _)] ⟨rfl, rfl, rfl, trivial⟩ ⟨_, hK4, rfl, h⟩
  replace hc33 := zb hc33
  replace hF := bifF hc33 hF
  refine qC hc33 (t := 23) rfl (qa rfl (zp1 rfl (qa rfl (zl 0 3 h rfl (qa rfl (zp1 rfl (qa rfl (zp3 rfl ?_))))))))
  by_cases hc34 : (decide ((a_0.Arcs.length : Int) > 8)) = true
  ·replace hF := bifT hc34 hF
   refine qD hc34 (t := 29) rfl (zn4 rfl (zp2 rfl (zn4 rfl (zp1 rfl ?_))))
   refine qb ?_
   obtain rfl := qi hF
   exact qz [(1, _), (3, _), (40, _)] ⟨rfl, rfl, rfl, trivial⟩ ⟨_, hK4, rfl, h⟩
  replace hc34 := zb hc34
  replace hF := bifF hc34 hF
  refine qC hc34 (t := 29) rfl (qa rfl (zp1 rfl (qa rfl (zl 0 5 h rfl (qa rfl ?_)))))
  obtain ⟨r8, hr20, hF⟩ := qd hF
  refine qt r8 h call35 (qau hr20) rfl rfl rfl rfl ?_
  intro w19 h
  refine qa rfl (zp3 rfl ?_)
  by_cases hc35 : (!r8) = true
  ·replace hF := bifT hc35 hF
   refine qD hc35 (t := 35) rfl (zn4 rfl (zp1 rfl (qb ?_)))
   obtain rfl := qi hF
   exact qz [(1, _), (3, _), (40, _)] ⟨rfl, rfl, rfl, trivial⟩ ⟨_, hK4, rfl, h⟩
  replace hc35 := zb hc35
  replace hF := bifF hc35 hF
  refine qC hc35 (t := 35) rfl (qa rfl (zp1 rfl (qa rfl (zl 0 6 h rfl (qa rfl ?_)))))
  obtain ⟨r9, hr21, hF⟩ := qd hF
  refine qt r9 h call35 (qau hr21) rfl rfl rfl rfl ?_
  intro w20 h
  refine qa rfl (zp2 rfl (qb ?_))
  obtain rfl := qi hF
  exact qz [(1, _), (3, _), (40, _)] ⟨rfl, rfl, rfl, trivial⟩ ⟨_, hK4, rfl, h⟩
 rintro e4 w21 ⟨b1, hF, rfl, h⟩
 subst hKF1
 refine qu rfl hF ?_ ?_ <;> intro hF
 ·exact zSR (zp1 rfl (qb (qx qc h hF ⟨rfl, trivial⟩)))
 refine zKSSR (zp1 rfl (qb ?_))
 obtain ⟨o1, hF, hK1⟩ := qd hF
 refine qv (qR [(1, _), (3, _), (5, _)] ⟨rfl, rfl, rfl, trivial⟩ ?_)
 refine qG (fun m e w' => ∃ (i1 : Int), qda a_0 m i1 = some o1 ∧ e = [(1, .pointer (some ⟨bb1, 0, none⟩)), (3, .int .i64 r2), (5, .int .i64 i1)] ∧ SH w w' [Ch.box bb1 [.string a_0.Name, .int .i64 a_0.Kind, .slice p1 a_0.Pins.length k1, .slice p2 a_0.Arcs.length k2, .slice p3 a_0.Truth.length k3, .int .i64 a_0.Leak, .int .i64 a_0.Energy] 155]) n ⟨_, hF, rfl, h⟩ ?_
 rintro m1 e1 w3 ⟨i1, hF, rfl, h⟩
 rcases m1 with _ | m1
 ·rw [qda] at hF
  cases hF
 rw [qda] at hF
 refine zSSR (zp2 rfl (zl 0 3 h rfl (zp2 rfl (qb ?_))))
 refine qu rfl hF ?_ ?_ <;> intro hF
 ·refine zKSBSR (zp1 rfl (zl 0 3 h rfl (zp1 rfl ?_)))
  obtain ⟨y1, hy1, hF⟩ := qd hF
  have he1 := qf hy1
  obtain ⟨b2, o_1, q1, cs2, hp1, hq1, -, hr5, hc3⟩ := s2.at hy1
  obtain ⟨p4, k4, p5, k5, rfl, s4, s5⟩ := qao hr5
  refine zxe hp1 hq1 he1 rfl (zc 0 (hc3.below h.below) rfl (qU qc h rfl rfl rfl ?_))
  intro w4 bb2 h
  refine zs 0 h rfl ?_
  intro w5 h
  refine zNSSR (zl 1 0 h rfl (zl 0 0 h rfl ?_))
  obtain ⟨r4, hr6, hF⟩ := qd hF
  refine qt r4 h call166 (qkV (h.old ha1) (qeU y1 (h.oldS s4) (h.oldS s5)) hr6) rfl rfl rfl rfl ?_
  intro w6 h
  refine zp1 rfl (qb ?_)
  refine qu rfl hF ?_ ?_ <;> intro hF
  ·refine zSR (zp1 rfl (qb ?_))
   obtain rfl := qi hF; replace hF := hK1
   exact qx qc h hF ⟨rfl, trivial⟩
  refine zKSR (zp1 rfl (qb ?_))
  obtain ⟨o2, hF, hK2⟩ := qd hF
  refine qv (qR [(1, _), (3, _), (5, _), (6, _), (7, _)] ⟨rfl, rfl, rfl, rfl, rfl, trivial⟩ ?_)
  refine qG (fun m e w' => ∃ (i2 : Int), qb4 a_0 i1 y1 m i2 = some o2 ∧ e = [(1, .pointer (some ⟨bb1, 0, none⟩)), (3, .int .i64 r2), (5, .int .i64 i1), (6, .pointer (some ⟨bb2, 0, none⟩)), (7, .int .i64 i2)] ∧ SH w w' [Ch.box bb2 [.int .i64 y1.Kind, .int .i64 y1.From, .int .i64 y1.To, .int .i64 y1.Sense, .slice p4 y1.Delay.length k4, .slice p5 y1.Slew.length k5] 159, Ch.box bb1 [.string a_0.Name, .int .i64 a_0.Kind, .slice p1 a_0.Pins.length k1, .slice p2 a_0.Arcs.length k2, .slice p3 a_0.Truth.length k3, .int .i64 a_0.Leak, .int .i64 a_0.Energy] 155]) m1 ⟨_, hF, rfl, h⟩ ?_
  rintro m2 e2 w7 ⟨i2, hF, rfl, h⟩
  rcases m2 with _ | m2
  ·rw [qb4] at hF
   cases hF
  rw [qb4] at hF
  refine zSSR (zp3 rfl (qb ?_))
  refine qu rfl hF ?_ ?_ <;> intro hF
  ·refine zKSB (qbg ?_)
   refine qcQ rfl (by kernel_rfl) ?_
   refine zd1 rfl ?_
   refine zdl 1 3 h rfl ?_
   refine zd1 rfl ?_
   obtain ⟨y2, hy2, hF⟩ := qd hF
   have he2 := qf hy2
   obtain ⟨b3, o_2, q2, cs3, hp2, hq2, -, hr7, hc6⟩ := s2.at hy2
   obtain ⟨p6, k6, p7, k7, rfl, s6, s7⟩ := qao hr7
   refine zdxe hp2 hq2 he2 rfl ?_
   refine zd1 rfl ?_
   refine zdc 0 (hc6.below h.below) rfl ?_
   refine zd1 rfl ?_
   refine zdl 0 0 h rfl ?_
   refine zd2 rfl ?_
   by_cases hc7 : (y2.Kind == y1.Kind) = true
   ·replace hF := bifT hc7 hF
    refine qc0 hc7 (t := 71) rfl (qg rfl (zd1 rfl (qg rfl ?_)))
    refine zdl 1 3 h rfl ?_
    refine qg rfl (zd1 rfl (qg rfl ?_))
    obtain ⟨y3, hy3, hF⟩ := qd hF
    have he3 := qf hy3
    obtain ⟨b4, o_3, q3, cs4, hp3, hq3, -, hr8, hc8⟩ := s2.at hy3
    obtain ⟨p8, k8, p9, k9, rfl, s8, s9⟩ := qao hr8
    refine zdxe hp3 hq3 he3 rfl ?_
    refine qg rfl (zd1 rfl (qg rfl ?_))
    refine zdc 1 (hc8.below h.below) rfl ?_
    refine qg rfl (zd1 rfl (qg rfl ?_))
    refine zdl 0 1 h rfl ?_
    refine qg rfl (zd3 rfl ?_)
    by_cases hc9 : (y3.From == y1.From) = true
    ·replace hF := bifT hc9 hF
     refine qc0 hc9 (t := 82) rfl (qg rfl (zd1 rfl (qg rfl ?_)))
     refine zdl 1 3 h rfl ?_
     refine qg rfl (zd1 rfl (qg rfl ?_))
     obtain ⟨y4, hy4, hF⟩ := qd hF
     have he4 := qf hy4
     obtain ⟨b5, o_4, q4, cs5, hp4, hq4, -, hr9, hc10⟩ := s2.at hy4
     obtain ⟨p10, k10, p11, k11, rfl, s10, s11⟩ := qao hr9
     refine zdxe hp4 hq4 he4 rfl ?_
     refine qg rfl (zd1 rfl (qg rfl ?_))
     refine zdc 2 (hc10.below h.below) rfl ?_
     refine qg rfl (zd1 rfl (qg rfl ?_))
     refine zdl 0 2 h rfl ?_
     refine qg rfl (zd2 rfl ?_)
     refine qbj (fun w8 hb => ?_)
     replace h := h.ext hb
     clear hb
     refine qu rfl hF ?_ ?_ <;> intro hF
     ·refine zSR (zp1 rfl (qb ?_))
      obtain rfl := qi hF; replace hF := hK2
      obtain rfl := qi hF; replace hF := hK1
      exact qx qc h hF ⟨rfl, trivial⟩
     exact zKER (zp3 rfl (qb (qy m2 [(1, _), (3, _), (5, _), (6, _), (7, _)] (Nat.lt_succ_self m2) ⟨rfl, rfl, rfl, rfl, rfl, trivial⟩ ⟨_, hF, rfl, h⟩)))
    replace hc9 := zb hc9
    replace hF := bifF hc9 hF
    refine qc9 hc9 (t := 82) rfl (qk rfl rfl rfl (qk rfl rfl rfl (qk rfl rfl rfl (qk rfl rfl rfl (qk rfl rfl rfl (qk rfl rfl rfl (qk rfl rfl rfl (qk rfl rfl rfl (qk rfl rfl rfl (zd1 rfl ?_))))))))))
    refine qbj (fun w9 hb => ?_)
    replace h := h.ext hb
    clear hb
    exact qev rfl rfl (zKER (zp3 rfl (qb (qy m2 [(1, _), (3, _), (5, _), (6, _), (7, _)] (Nat.lt_succ_self m2) ⟨rfl, rfl, rfl, rfl, rfl, trivial⟩ ⟨_, hF, rfl, h⟩))))
   replace hc7 := zb hc7
   replace hF := bifF hc7 hF
   refine qc9 hc7 (t := 71) rfl (qk rfl rfl rfl (qk rfl rfl rfl (qk rfl rfl rfl (qk rfl rfl rfl (qk rfl rfl rfl (qk rfl rfl rfl (qk rfl rfl rfl (qk rfl rfl rfl (qk rfl rfl rfl (zd2 rfl ?_))))))))))
   refine qk rfl rfl rfl (qk rfl rfl rfl (qk rfl rfl rfl (qk rfl rfl rfl (qk rfl rfl rfl (qk rfl rfl rfl (qk rfl rfl rfl (qk rfl rfl rfl (qk rfl rfl rfl (zd1 rfl ?_)))))))))
   refine qbj (fun w10 hb => ?_)
   replace h := h.ext hb
   clear hb
   exact qev rfl rfl (zKER (zp3 rfl (qb (qy m2 [(1, _), (3, _), (5, _), (6, _), (7, _)] (Nat.lt_succ_self m2) ⟨rfl, rfl, rfl, rfl, rfl, trivial⟩ ⟨_, hF, rfl, h⟩))))
  refine qH rfl ?_
  obtain rfl := qi hF; replace hF := hK2
  refine qem (qB (zp3 rfl (qb ?_)))
  replace h := h.pick [1] rfl
  exact qy m1 [(1, _), (3, _), (5, _)] (Nat.lt_succ_self m1) ⟨rfl, rfl, rfl, trivial⟩ ⟨_, hF, rfl, h⟩
 refine qH rfl ?_
 obtain rfl := qi hF; replace hF := hK1
 refine zSR (zl 0 0 h rfl ?_)
 obtain ⟨r5, hr10, hF⟩ := qd hF
 refine qav r5 h call167 (qjY (h.old ha1) hr10) rfl rfl rfl rfl ?_
 intro w11 S4 p12 k12 h
 refine zp1 rfl (zNSSR (zp1 rfl (zl 1 1 h rfl (qb (zBSR (zp1 rfl ?_))))))
 refine zp1 rfl (qb ?_)
 refine qu rfl hF ?_ ?_ <;> intro hF
 ·refine zSSR (zp1 rfl (qb ?_))
  obtain ⟨o3, hF, hK3⟩ := qd hF
  refine qv ?_
  replace h := h.pick [1] rfl
  refine qR [(1, _), (3, _), (9, _)] ⟨rfl, rfl, rfl, trivial⟩ ?_
  refine qG (fun m e w' => ∃ (i3 : Int), qc1 a_0 m i3 = some o3 ∧ e = [(1, .pointer (some ⟨bb1, 0, none⟩)), (3, .int .i64 r2), (9, .int .i64 i3)] ∧ SH w w' [Ch.box bb1 [.string a_0.Name, .int .i64 a_0.Kind, .slice p1 a_0.Pins.length k1, .slice p2 a_0.Arcs.length k2, .slice p3 a_0.Truth.length k3, .int .i64 a_0.Leak, .int .i64 a_0.Energy] 155]) n ⟨_, hF, rfl, h⟩ ?_
  rintro m3 e3 w12 ⟨i3, hF, rfl, h⟩
  rcases m3 with _ | m3
  ·rw [qc1] at hF
   cases hF
  rw [qc1] at hF
  refine zSSR (zp2 rfl (zl 0 4 h rfl (zp2 rfl (qb ?_))))
  refine qu rfl hF ?_ ?_ <;> intro hF
  ·refine zKSBSR (zp1 rfl (zl 0 4 h rfl (zp1 rfl ?_)))
   obtain ⟨y5, hy5, hF⟩ := qd hF
   have he5 := qf hy5
   obtain ⟨b6, o_5, q5, cs6, hp5, hq5, -, hr11, hc14⟩ := s3.at hy5
   obtain rfl := hr11
   refine zxe hp5 hq5 he5 rfl (zc 0 (hc14.below h.below) rfl ?_)
   obtain ⟨r6, hr12, hF⟩ := qd hF
   refine qt r6 h call35 (qau hr12) rfl rfl rfl rfl ?_
   intro w13 h
   refine zp1 rfl (qb ?_)
   refine qu rfl hF ?_ ?_ <;> intro hF
   ·refine zSR (zp1 rfl (qb ?_))
    obtain rfl := qi hF; replace hF := hK3
    exact qx qc h hF ⟨rfl, trivial⟩
   exact zKER (zp3 rfl (qb (qy m3 [(1, _), (3, _), (9, _)] (Nat.lt_succ_self m3) ⟨rfl, rfl, rfl, trivial⟩ ⟨_, hF, rfl, h⟩)))
  refine qH rfl ?_
  obtain rfl := qi hF; replace hF := hK3
  refine zSR (zp3 rfl ?_)
  by_cases hc16 : (r2 == 0) = true
  ·replace hF := bifT hc16 hF
   refine qD hc16 (t := 115) rfl (qa rfl (zp1 rfl (qa rfl (zl 0 4 h rfl (qa rfl (zp1 rfl (qa rfl (zp1 rfl (qa rfl (zl 0 2 h rfl (qa rfl ?_)))))))))))
   refine zp1 rfl (qa rfl (zp1 rfl (qa rfl (zp1 rfl (qa rfl ?_)))))
   obtain ⟨y6, hx1, hF⟩ := qd hF
   obtain ⟨g1, hx1⟩ := qlO hx1
   refine r_v (qp9 g1 rfl rfl) rfl ?_
   rw [hx1]
   exact qa rfl (zp3 rfl (qb (qx qc h hF ⟨rfl, trivial⟩)))
  replace hc16 := zb hc16
  replace hF := bifF hc16 hF
  refine qC hc16 (t := 115) rfl (zn5 rfl (zn5 rfl (zp1 rfl ?_)))
  exact zp1 rfl (qb (qx qc h hF ⟨rfl, trivial⟩))
 refine zSR (zp2 rfl (qb ?_))
 refine qu rfl hF ?_ ?_ <;> intro hF
 ·refine qbg ?_
  refine qcQ rfl (by kernel_rfl) ?_
  refine zd3 rfl ?_
  by_cases hc18 : (r2 == 1) = true
  ·replace hF := bifT hc18 hF
   refine qc0 hc18 (t := 131) rfl (qg rfl (zd1 rfl (qg rfl ?_)))
   obtain ⟨y7, hy6, hF⟩ := qd hF
   have he6 := qf hy6
   obtain ⟨b7, o_6, q6, cs7, hp6, hq6, -, hr13, hc19⟩ := (h.sl 0 rfl).1.at hy6
   obtain rfl := hr13
   refine zdx hp6 hq6 ⟨he6.1, qah he6.2.1 (h.sl 0 rfl).2⟩ rfl ?_
   refine qg rfl ?_
   refine zdc 0 hc19 rfl ?_
   refine qg rfl (zd3 rfl ?_)
   by_cases hc20 : (y7 == 0) = true
   ·replace hF := bifT hc20 hF
    refine qc0 hc20 (t := 137) rfl (qg rfl (zd1 rfl (qg rfl ?_)))
    obtain ⟨y8, hy7, hF⟩ := qd hF
    have he7 := qf hy7
    obtain ⟨b8, o_7, q7, cs8, hp7, hq7, -, hr14, hc21⟩ := (h.sl 0 rfl).1.at hy7
    obtain rfl := hr14
    refine zdx hp7 hq7 ⟨he7.1, qah he7.2.1 (h.sl 0 rfl).2⟩ rfl ?_
    refine qg rfl ?_
    refine zdc 0 hc21 rfl ?_
    refine qg rfl (zd1 rfl (qg rfl (zd1 rfl (qg rfl ?_))))
    obtain ⟨y9, hy8, hF⟩ := qd hF
    have he8 := qf hy8
    obtain ⟨b9, o_8, q8, cs9, hp8, hq8, -, hr15, hc22⟩ := (h.sl 0 rfl).1.at hy8
    obtain rfl := hr15
    refine zdx hp8 hq8 ⟨he8.1, qah he8.2.1 (h.sl 0 rfl).2⟩ rfl ?_
    refine qg rfl ?_
    refine zdc 0 hc22 rfl ?_
    refine qg rfl (zd1 rfl (qg rfl (zd3 rfl ?_)))
    by_cases hc23 : (!((decide (y8 > 0)) == (decide (y9 > 0)))) = true
    ·replace hF := bifT hc23 hF
     refine qc0 hc23 (t := 148) rfl (qg rfl (zd1 rfl (qg rfl ?_)))
     refine zdl 1 4 h rfl ?_
     refine qg rfl (zd1 rfl (qg rfl (zd3 rfl ?_)))
     refine qbj (fun w14 hb => ?_)
     replace h := h.ext hb
     clear hb
     exact qx qc h hF ⟨rfl, trivial⟩
    replace hc23 := zb hc23
    replace hF := bifF hc23 hF
    refine qc9 hc23 (t := 148) rfl (qk rfl rfl rfl (qk rfl rfl rfl (qk rfl rfl rfl (qk rfl rfl rfl (zd2 rfl ?_)))))
    refine qbj (fun w15 hb => ?_)
    replace h := h.ext hb
    clear hb
    exact qx qc h hF ⟨rfl, trivial⟩
   replace hc20 := zb hc20
   replace hF := bifF hc20 hF
   refine qc9 hc20 (t := 137) rfl (qk rfl rfl rfl (qk rfl rfl rfl (qk rfl rfl rfl (qk rfl rfl rfl (qk rfl rfl rfl (qk rfl rfl rfl (qk rfl rfl rfl (qk rfl rfl rfl (qk rfl rfl rfl (zd2 rfl ?_))))))))))
   refine qk rfl rfl rfl (qk rfl rfl rfl (qk rfl rfl rfl (qk rfl rfl rfl (zd2 rfl ?_))))
   refine qbj (fun w16 hb => ?_)
   replace h := h.ext hb
   clear hb
   exact qx qc h hF ⟨rfl, trivial⟩
  replace hc18 := zb hc18
  replace hF := bifF hc18 hF
  refine qc9 hc18 (t := 131) rfl (qk rfl rfl rfl (qk rfl rfl rfl (qk rfl rfl rfl (qk rfl rfl rfl (zd2 rfl (qk rfl rfl rfl (qk rfl rfl rfl (qk rfl rfl rfl (qk rfl rfl rfl (qk rfl rfl rfl ?_))))))))))
  refine qk rfl rfl rfl (qk rfl rfl rfl (qk rfl rfl rfl (qk rfl rfl rfl (zd2 rfl (qk rfl rfl rfl (qk rfl rfl rfl (qk rfl rfl rfl (qk rfl rfl rfl (zd2 rfl ?_)))))))))
  refine qbj (fun w17 hb => ?_)
  replace h := h.ext hb
  clear hb
  exact qx qc h hF ⟨rfl, trivial⟩
 refine zSR (zp2 rfl (qb ?_))
 refine qu rfl hF ?_ ?_ <;> intro hF
 ·refine zSR (zp3 rfl ?_)
  by_cases hc25 : (r2 == 1) = true
  ·replace hF := bifT hc25 hF
   refine qD hc25 (t := 158) rfl (qa rfl (zp1 rfl (qa rfl ?_)))
   obtain ⟨y10, hy9, hF⟩ := qd hF
   have he9 := qf hy9
   obtain ⟨b10, o_9, q9, cs10, hp9, hq9, -, hr16, hc26⟩ := (h.sl 0 rfl).1.at hy9
   obtain rfl := hr16
   refine zx hp9 hq9 ⟨he9.1, qah he9.2.1 (h.sl 0 rfl).2⟩ rfl (qa rfl (zc 0 hc26 rfl (qa rfl (zp3 rfl ?_))))
   by_cases hc27 : (decide (y10 > 0)) = true
   ·replace hF := bifT hc27 hF
    refine qD hc27 (t := 164) rfl (qa rfl (zp1 rfl (qa rfl ?_)))
    obtain ⟨y11, hy10, hF⟩ := qd hF
    have he10 := qf hy10
    obtain ⟨b11, o_10, q10, cs11, hp10, hq10, -, hr17, hc28⟩ := (h.sl 0 rfl).1.at hy10
    obtain rfl := hr17
    refine zx hp10 hq10 ⟨he10.1, qah he10.2.1 (h.sl 0 rfl).2⟩ rfl (qa rfl (zc 0 hc28 rfl (qa rfl (zp3 rfl ?_))))
    by_cases hc29 : (decide (y11 > 0)) = true
    ·replace hF := bifT hc29 hF
     refine qD hc29 (t := 170) rfl (qa rfl (zp1 rfl (qa rfl ?_)))
     obtain ⟨y12, hy11, hF⟩ := qd hF
     have he11 := qf hy11
     obtain ⟨b12, o_11, q11, cs12, hp11, hq11, -, hr18, hc30⟩ := (h.sl 0 rfl).1.at hy11
     obtain rfl := hr18
     refine zx hp11 hq11 ⟨he11.1, qah he11.2.1 (h.sl 0 rfl).2⟩ rfl (qa rfl (zc 0 hc30 rfl (qa rfl (zp3 rfl ?_))))
     by_cases hc31 : (y12 == 0) = true
     ·replace hF := bifT hc31 hF
      refine qD hc31 (t := 176) rfl (qa rfl (zp1 rfl (qa rfl (zl 1 4 h rfl (qa rfl (zp1 rfl (qa rfl (zp3 rfl (qb ?_)))))))))
      exact qx qc h hF ⟨rfl, trivial⟩
     replace hc31 := zb hc31
     replace hF := bifF hc31 hF
     exact qC hc31 (t := 176) rfl (zn4 rfl (zp2 rfl (qb (qx qc h hF ⟨rfl, trivial⟩))))
    replace hc29 := zb hc29
    replace hF := bifF hc29 hF
    refine qC hc29 (t := 170) rfl (zn4 rfl (zp2 rfl (zn4 rfl (zp1 rfl ?_))))
    exact zp1 rfl (qb (qx qc h hF ⟨rfl, trivial⟩))
   replace hc27 := zb hc27
   replace hF := bifF hc27 hF
   refine qC hc27 (t := 164) rfl (zn4 rfl (zp2 rfl (zn4 rfl (zp1 rfl ?_))))
   exact zp1 rfl (zn4 rfl (zp2 rfl (qb (qx qc h hF ⟨rfl, trivial⟩))))
  replace hc25 := zb hc25
  replace hF := bifF hc25 hF
  refine qC hc25 (t := 158) rfl (zn4 rfl (zp2 rfl (zn4 rfl (zp1 rfl ?_))))
  refine zp1 rfl (zn4 rfl (zp2 rfl (zn4 rfl (zp1 rfl ?_))))
  exact zp1 rfl (qb (qx qc h hF ⟨rfl, trivial⟩))
 exact zKE (zSR (zp1 rfl (qb (qx qc h hF ⟨rfl, trivial⟩))))

def qb0 (l : qn) (i1 : Int) : Nat → Int → Option (Flow Bool Int)
 | 0, _ => none
 | n + 1, i2 =>
  bif decide (i2 < i1) then
   (idx l.Cells i2).bind fun y2 =>
   (idx l.Cells i1).bind fun y3 =>
   bif (y2.Name.toList == y3.Name.toList) then
    some (.ret false)
   else
    qb0 l i1 n (W64 (i2 + 1))
  else
   some (.nxt i2)

def qbZ (l : qn) : Nat → Int → Option (Flow Bool Int)
 | 0, _ => none
 | n + 1, i1 =>
  bif decide (i1 < (l.Cells.length : Int)) then
   (idx l.Cells i1).bind fun y1 =>
   (qgQ n y1).bind fun r1 =>
   bif (!r1) then
    some (.ret false)
   else
    (qb0 l i1 n 0).bind fun o => match o with
    | .ret r => some (.ret r)
    | .nxt _ =>
     qbZ l n (W64 (i1 + 1))
  else
   some (.nxt i1)

def qe4 (n : Nat) (l : qn) : Option Bool :=
 (qbZ l n 0).bind fun o => match o with
 | .ret r => some r
 | .nxt _ =>
  some (decide ((l.Cells.length : Int) ≤ 8))

theorem qjD {n : Nat} {w : World} {l : qn} {cs1 : List Value} (ha1 : GoT.R w (old w) l cs1) {r : Bool} (hF : qe4 n l = some r) : RetV Tryz.prog 118 [GoT.v qn cs1] w r := by
 obtain ⟨p1, k1, rfl, s1⟩ := qbf ha1
 refine qe Tryz.func118 rfl (m := 41) rfl rfl (fun h => ?_)
 rw [qe4] at hF
 refine zSR (qO h rfl rfl ?_)
 intro w1 bb1 h
 refine zp1 rfl (zNSSR (zp1 rfl (qb ?_)))
 obtain ⟨o1, hF, hK1⟩ := qd hF
 refine qv (qR [(1, _), (3, _)] ⟨rfl, rfl, trivial⟩ ?_)
 refine qG (fun m e w' => ∃ (i1 : Int), qbZ l m i1 = some o1 ∧ e = [(1, .pointer (some ⟨bb1, 0, none⟩)), (3, .int .i64 i1)] ∧ SH w w' [Ch.box bb1 [.slice p1 l.Cells.length k1] 41]) n ⟨_, hF, rfl, h⟩ ?_
 rintro m1 e1 w2 ⟨i1, hF, rfl, h⟩
 rcases m1 with _ | m1
 ·rw [qbZ] at hF
  cases hF
 rw [qbZ] at hF
 refine zSSR (zp2 rfl (zl 0 0 h rfl (zp2 rfl (qb ?_))))
 refine qu rfl hF ?_ ?_ <;> intro hF
 ·refine zKSB (zSSR (zp1 rfl (zl 0 0 h rfl (zp1 rfl ?_))))
  obtain ⟨y1, hy1, hF⟩ := qd hF
  have he1 := qf hy1
  obtain ⟨b1, o_1, q1, cs2, hp1, hq1, -, hr1, hc2⟩ := s1.at hy1
  obtain ⟨p2, k2, p3, k3, p4, k4, rfl, s2, s3, s4⟩ := qS hr1
  refine zxe hp1 hq1 he1 rfl (zc 0 (hc2.below h.below) rfl ?_)
  obtain ⟨r1, hr2, hF⟩ := qd hF
  refine qt r1 h call149 (qlg (qfW y1 (h.oldS s2) (h.oldS s3) (h.oldS s4)) hr2) rfl rfl rfl rfl ?_
  intro w3 h
  refine zp1 rfl (qb ?_)
  refine qu rfl hF ?_ ?_ <;> intro hF
  ·refine zSR (zp1 rfl (qb ?_))
   obtain rfl := qi hF; replace hF := hK1
   exact qx qc h hF ⟨rfl, trivial⟩
  refine zKSR (zp1 rfl (qb ?_))
  obtain ⟨o2, hF, hK2⟩ := qd hF
  refine qv (qR [(1, _), (3, _), (4, _)] ⟨rfl, rfl, rfl, trivial⟩ ?_)
  refine qG (fun m e w' => ∃ (i2 : Int), qb0 l i1 m i2 = some o2 ∧ e = [(1, .pointer (some ⟨bb1, 0, none⟩)), (3, .int .i64 i1), (4, .int .i64 i2)] ∧ SH w w' [Ch.box bb1 [.slice p1 l.Cells.length k1] 41]) m1 ⟨_, hF, rfl, h⟩ ?_
  rintro m2 e2 w4 ⟨i2, hF, rfl, h⟩
  rcases m2 with _ | m2
  ·rw [qb0] at hF
   cases hF
  rw [qb0] at hF
  refine zSSR (zp3 rfl (qb ?_))
  refine qu rfl hF ?_ ?_ <;> intro hF
  ·refine zKSB (qbg ?_)
   refine qcQ rfl (by kernel_rfl) ?_
   refine zd1 rfl ?_
   refine zdl 0 0 h rfl ?_
   refine zd1 rfl ?_
   obtain ⟨y2, hy2, hF⟩ := qd hF
   have he2 := qf hy2
   obtain ⟨b2, o_2, q2, cs3, hp2, hq2, -, hr3, hc5⟩ := s1.at hy2
   obtain ⟨p5, k5, p6, k6, p7, k7, rfl, s5, s6, s7⟩ := qS hr3
   refine zdxe hp2 hq2 he2 rfl ?_
   refine zd1 rfl ?_
   refine zdc 0 (hc5.below h.below) rfl ?_
   refine zd1 rfl ?_
   refine zdl 0 0 h rfl ?_
   refine zd1 rfl ?_
   obtain ⟨y3, hy3, hF⟩ := qd hF
   have he3 := qf hy3
   obtain ⟨b3, o_3, q3, cs4, hp3, hq3, -, hr4, hc6⟩ := s1.at hy3
   obtain ⟨p8, k8, p9, k9, p10, k10, rfl, s8, s9, s10⟩ := qS hr4
   refine zdxe hp3 hq3 he3 rfl ?_
   refine zd1 rfl ?_
   refine zdc 0 (hc6.below h.below) rfl ?_
   refine zd1 rfl ?_
   refine qbj (fun w5 hb => ?_)
   replace h := h.ext hb
   clear hb
   refine qu rfl hF ?_ ?_ <;> intro hF
   ·refine zSR (zp1 rfl (qb ?_))
    obtain rfl := qi hF; replace hF := hK2
    obtain rfl := qi hF; replace hF := hK1
    exact qx qc h hF ⟨rfl, trivial⟩
   exact zKER (zp3 rfl (qb (qy m2 [(1, _), (3, _), (4, _)] (Nat.lt_succ_self m2) ⟨rfl, rfl, rfl, trivial⟩ ⟨_, hF, rfl, h⟩)))
  refine qH rfl ?_
  obtain rfl := qi hF; replace hF := hK2
  exact qem (qB (zp3 rfl (qb (qy m1 [(1, _), (3, _)] (Nat.lt_succ_self m1) ⟨rfl, rfl, trivial⟩ ⟨_, hF, rfl, h⟩))))
 refine qH rfl ?_
 obtain rfl := qi hF; replace hF := hK1
 exact zSR (zp1 rfl (zl 0 0 h rfl (zp3 rfl (qb (qx qc h hF ⟨rfl, trivial⟩)))))

def qcg (a_1 : qh) (y1 : ql) : Nat → Int → Option (Flow Bool Int)
 | 0, _ => none
 | n + 1, i2 =>
  bif decide (i2 < (y1.Nets.length : Int)) then
   (idx y1.Nets i2).bind fun y2 =>
   (qaN n y2 0 (W64 ((a_1.Nets.length : Int) - 1))).bind fun r1 =>
   bif (!r1) then
    some (.ret false)
   else
    qcg a_1 y1 n (W64 (i2 + 1))
  else
   some (.nxt i2)

def qch (a_1 : qh) : Nat → Int → Option (Flow Bool Int)
 | 0, _ => none
 | n + 1, i3 =>
  bif decide (i3 < (a_1.Ports.length : Int)) then
   (idx a_1.Ports i3).bind fun y4 =>
   (qaN n y4.Dir 1 2).bind fun r3 =>
   bif (!r3) then
    some (.ret false)
   else
    (idx a_1.Ports i3).bind fun y5 =>
    (qaN n y5.Net 0 (W64 ((a_1.Nets.length : Int) - 1))).bind fun r4 =>
    bif (!r4) then
     some (.ret false)
    else
     qch a_1 n (W64 (i3 + 1))
  else
   some (.nxt i3)

def qcf (a_0 : qn) (a_1 : qh) : Nat → Int → Option (Flow Bool Int)
 | 0, _ => none
 | n + 1, i1 =>
  bif decide (i1 < (a_1.Instances.length : Int)) then
   (idx a_1.Instances i1).bind fun y1 =>
   (
    (qaN n y1.Cell 0 (W64 ((a_0.Cells.length : Int) - 1))).bind fun r2 =>
    bif (!r2) then
     some true
    else
     (idx a_0.Cells y1.Cell).bind fun y3 =>
     some ((y1.Nets.length : Int) != (y3.Pins.length : Int))).bind fun b2 =>
   bif b2 then
    some (.ret false)
   else
    (qcg a_1 y1 n 0).bind fun o => match o with
    | .ret r => some (.ret r)
    | .nxt _ =>
     qcf a_0 a_1 n (W64 (i1 + 1))
  else
   some (.nxt i1)

def qfC (n : Nat) (a_0 : qn) (a_1 : qh) : Option Bool :=
 (qcf a_0 a_1 n 0).bind fun o => match o with
 | .ret r => some r
 | .nxt _ =>
  (qch a_1 n 0).bind fun o => match o with
  | .ret r => some r
  | .nxt _ =>
   some true

theorem qj7 {n : Nat} {w : World} {a_0 : qn} {a_1 : qh} {cs1 : List Value} (ha1 : GoT.R w (old w) a_0 cs1) {cs2 : List Value} (ha2 : GoT.R w (old w) a_1 cs2) {r : Bool} (hF : qfC n a_0 a_1 = some r) : RetV Tryz.prog 119 [GoT.v qn cs1, GoT.v qh cs2] w r := by
 obtain ⟨p1, k1, rfl, s1⟩ := qbf ha1
 obtain ⟨p2, k2, p3, k3, p4, k4, rfl, s2, s3, s4⟩ := qai ha2
 refine qe Tryz.func119 rfl (m := 90) rfl rfl (fun h => ?_)
 rw [qfC] at hF
 refine zSR (qO h rfl rfl ?_)
 intro w1 bb1 h
 refine qO h rfl rfl ?_
 intro w2 bb2 h
 refine zp1 rfl (zNSR (zp1 rfl (zl 0 1 h rfl (zp2 rfl (zNSSR ?_)))))
 refine zp1 rfl (qb ?_)
 obtain ⟨o1, hF, hK1⟩ := qd hF
 refine qv (qR [(2, _), (3, _), (5, _), (6, _)] ⟨rfl, rfl, rfl, rfl, trivial⟩ ?_)
 refine qG (fun m e w' => ∃ (i1 : Int), qcf a_0 a_1 m i1 = some o1 ∧ e = [(2, .pointer (some ⟨bb1, 0, none⟩)), (3, .pointer (some ⟨bb2, 0, none⟩)), (5, .int .i64 (a_1.Nets.length : Int)), (6, .int .i64 i1)] ∧ SH w w' [Ch.box bb2 [.slice p2 a_1.Instances.length k2, .slice p3 a_1.Nets.length k3, .slice p4 a_1.Ports.length k4] 45, Ch.box bb1 [.slice p1 a_0.Cells.length k1] 41]) n ⟨_, hF, rfl, h⟩ ?_
 rintro m1 e1 w3 ⟨i1, hF, rfl, h⟩
 rcases m1 with _ | m1
 ·rw [qcf] at hF
  cases hF
 rw [qcf] at hF
 refine zSSR (zp2 rfl (zl 0 0 h rfl (zp2 rfl (qb ?_))))
 refine qu rfl hF ?_ ?_ <;> intro hF
 ·refine zKSBSR (zp1 rfl (zl 0 0 h rfl (zp1 rfl ?_)))
  obtain ⟨y1, hy1, hF⟩ := qd hF
  have he1 := qf hy1
  obtain ⟨b1, o_1, q1, cs3, hp1, hq1, -, hr1, hc2⟩ := s2.at hy1
  obtain ⟨p5, k5, rfl, s5⟩ := qT hr1
  refine zxe hp1 hq1 he1 rfl (zc 0 (hc2.below h.below) rfl (qU qc h rfl rfl rfl ?_))
  intro w4 bb3 h
  refine zs 0 h rfl ?_
  intro w5 h
  refine zNSS ?_
  obtain ⟨KF1, hKF1, o3, hF, hK3⟩ := bindE hF
  refine qeA (fun e w' => ∃ (b2 : Bool), KF1 b2 = some o1 ∧ e = [(2, .pointer (some ⟨bb1, 0, none⟩)), (3, .pointer (some ⟨bb2, 0, none⟩)), (5, .int .i64 (a_1.Nets.length : Int)), (6, .int .i64 i1), (7, .pointer (some ⟨bb3, 0, none⟩)), (46, .bool b2)] ∧ SH w w' [Ch.box bb3 [.string y1.Name, .int .i64 y1.Cell, .slice p5 y1.Nets.length k5] 126, Ch.box bb2 [.slice p2 a_1.Instances.length k2, .slice p3 a_1.Nets.length k3, .slice p4 a_1.Ports.length k4] 45, Ch.box bb1 [.slice p1 a_0.Cells.length k1] 41]) ?_ ?_
  ·refine qcQ rfl (by kernel_rfl) ?_
   refine zd1 rfl ?_
   refine zdl 0 1 h rfl ?_
   refine zd1 rfl ?_
   refine zdl 2 0 h rfl ?_
   refine zd2 rfl ?_
   obtain ⟨r2, hr4, hF⟩ := qd hF
   refine qc8 r2 (vsB _) call35 (fun _ hb => qau  hr4) rfl rfl rfl rfl ?_
   refine zd2 rfl ?_
   by_cases hc7 : (!r2) = true
   ·replace hF := bifT hc7 hF
    refine qc0 hc7 (t := 33) rfl (qk rfl rfl rfl (qk rfl rfl rfl (qk rfl rfl rfl (qk rfl rfl rfl (qk rfl rfl rfl (qk rfl rfl rfl (qk rfl rfl rfl (qk rfl rfl rfl (qk rfl rfl rfl (qk rfl rfl rfl (qk rfl rfl rfl ?_)))))))))))
    refine qk rfl rfl rfl (zd1 rfl ?_)
    refine qbj (fun w8 hb => ?_)
    replace h := h.ext hb
    clear hb
    obtain rfl := qi hF
    exact qz [(2, _), (3, _), (5, _), (6, _), (7, _), (46, _)] ⟨rfl, rfl, rfl, rfl, rfl, rfl, trivial⟩ ⟨_, hK3, rfl, h⟩
   replace hc7 := zb hc7
   replace hF := bifF hc7 hF
   refine qc9 hc7 (t := 33) rfl (qg rfl (zd1 rfl (qg rfl ?_)))
   refine zdl 0 2 h rfl ?_
   refine qg rfl (zd1 rfl (qg rfl (zd1 rfl (qg rfl ?_))))
   refine zdl 2 0 h rfl ?_
   refine qg rfl (zd1 rfl (qg rfl ?_))
   refine zdl 0 1 h rfl ?_
   refine qg rfl ?_
   obtain ⟨y3, hy3, hF⟩ := qd hF
   have he3 := qf hy3
   obtain ⟨b4, o_3, q3, cs5, hp3, hq3, -, hr5, hc8⟩ := s1.at hy3
   obtain ⟨p6, k6, p7, k7, p8, k8, rfl, s6, s7, s8⟩ := qS hr5
   refine zdxe hp3 hq3 he3 rfl ?_
   refine qg rfl (zd1 rfl (qg rfl ?_))
   refine zdc 2 (hc8.below h.below) rfl ?_
   refine qg rfl (zd1 rfl (qg rfl (zd2 rfl ?_)))
   refine qbj (fun w9 hb => ?_)
   replace h := h.ext hb
   clear hb
   obtain rfl := qi hF
   exact qz [(2, _), (3, _), (5, _), (6, _), (7, _), (46, _)] ⟨rfl, rfl, rfl, rfl, rfl, rfl, trivial⟩ ⟨_, hK3, rfl, h⟩
  rintro e3 w10 ⟨b2, hF, rfl, h⟩
  subst hKF1
  refine qu rfl hF ?_ ?_ <;> intro hF
  ·refine zSR (zp1 rfl (qb ?_))
   obtain rfl := qi hF; replace hF := hK1
   exact qx qc h hF ⟨rfl, trivial⟩
  refine zKSR (zp1 rfl (qb ?_))
  obtain ⟨o2, hF, hK2⟩ := qd hF
  refine qv (qR [(2, _), (3, _), (5, _), (6, _), (7, _), (8, _)] ⟨rfl, rfl, rfl, rfl, rfl, rfl, trivial⟩ ?_)
  refine qG (fun m e w' => ∃ (i2 : Int), qcg a_1 y1 m i2 = some o2 ∧ e = [(2, .pointer (some ⟨bb1, 0, none⟩)), (3, .pointer (some ⟨bb2, 0, none⟩)), (5, .int .i64 (a_1.Nets.length : Int)), (6, .int .i64 i1), (7, .pointer (some ⟨bb3, 0, none⟩)), (8, .int .i64 i2)] ∧ SH w w' [Ch.box bb3 [.string y1.Name, .int .i64 y1.Cell, .slice p5 y1.Nets.length k5] 126, Ch.box bb2 [.slice p2 a_1.Instances.length k2, .slice p3 a_1.Nets.length k3, .slice p4 a_1.Ports.length k4] 45, Ch.box bb1 [.slice p1 a_0.Cells.length k1] 41]) m1 ⟨_, hF, rfl, h⟩ ?_
  rintro m2 e2 w6 ⟨i2, hF, rfl, h⟩
  rcases m2 with _ | m2
  ·rw [qcg] at hF
   cases hF
  rw [qcg] at hF
  refine zSSR (zp2 rfl (zl 0 2 h rfl (zp2 rfl (qb ?_))))
  refine qu rfl hF ?_ ?_ <;> intro hF
  ·refine zKSBSR (zp1 rfl (zl 0 2 h rfl (zp1 rfl ?_)))
   obtain ⟨y2, hy2, hF⟩ := qd hF
   have he2 := qf hy2
   obtain ⟨b3, o_2, q2, cs4, hp2, hq2, -, hr2, hc5⟩ := s5.at hy2
   obtain rfl := hr2
   refine zxe hp2 hq2 he2 rfl (zc 0 (hc5.below h.below) rfl (zp2 rfl ?_))
   obtain ⟨r1, hr3, hF⟩ := qd hF
   refine qt r1 h call35 (qau hr3) rfl rfl rfl rfl ?_
   intro w7 h
   refine zp1 rfl (qb ?_)
   refine qu rfl hF ?_ ?_ <;> intro hF
   ·refine zSR (zp1 rfl (qb ?_))
    obtain rfl := qi hF; replace hF := hK2
    obtain rfl := qi hF; replace hF := hK1
    exact qx qc h hF ⟨rfl, trivial⟩
   exact zKER (zp3 rfl (qb (qy m2 [(2, _), (3, _), (5, _), (6, _), (7, _), (8, _)] (Nat.lt_succ_self m2) ⟨rfl, rfl, rfl, rfl, rfl, rfl, trivial⟩ ⟨_, hF, rfl, h⟩)))
  refine qH rfl ?_
  obtain rfl := qi hF; replace hF := hK2
  refine qem (qB (zp3 rfl (qb ?_)))
  replace h := h.pick [1, 2] rfl
  exact qy m1 [(2, _), (3, _), (5, _), (6, _)] (Nat.lt_succ_self m1) ⟨rfl, rfl, rfl, rfl, trivial⟩ ⟨_, hF, rfl, h⟩
 refine qH rfl ?_
 obtain rfl := qi hF; replace hF := hK1
 refine zSSR (zp1 rfl (qb ?_))
 obtain ⟨o4, hF, hK4⟩ := qd hF
 refine qv ?_
 replace h := h.pick [0] rfl
 refine qR [(3, _), (5, _), (9, _)] ⟨rfl, rfl, rfl, trivial⟩ ?_
 refine qG (fun m e w' => ∃ (i3 : Int), qch a_1 m i3 = some o4 ∧ e = [(3, .pointer (some ⟨bb2, 0, none⟩)), (5, .int .i64 (a_1.Nets.length : Int)), (9, .int .i64 i3)] ∧ SH w w' [Ch.box bb2 [.slice p2 a_1.Instances.length k2, .slice p3 a_1.Nets.length k3, .slice p4 a_1.Ports.length k4] 45]) n ⟨_, hF, rfl, h⟩ ?_
 rintro m3 e4 w11 ⟨i3, hF, rfl, h⟩
 rcases m3 with _ | m3
 ·rw [qch] at hF
  cases hF
 rw [qch] at hF
 refine zSSR (zp2 rfl (zl 0 2 h rfl (zp2 rfl (qb ?_))))
 refine qu rfl hF ?_ ?_ <;> intro hF
 ·refine zKSBSR (zp1 rfl (zl 0 2 h rfl (zp1 rfl ?_)))
  obtain ⟨y4, hy4, hF⟩ := qd hF
  have he4 := qf hy4
  obtain ⟨b5, o_4, q4, cs6, hp4, hq4, -, hr6, hc10⟩ := s4.at hy4
  obtain rfl := qbc hr6
  refine zxe hp4 hq4 he4 rfl (zp1 rfl (zc 1 (hc10.below h.below) rfl ?_))
  obtain ⟨r3, hr7, hF⟩ := qd hF
  refine qt r3 h call35 (qau hr7) rfl rfl rfl rfl ?_
  intro w12 h
  refine zp2 rfl ?_
  by_cases hc11 : (!r3) = true
  ·replace hF := bifT hc11 hF
   refine qD hc11 (t := 78) rfl (zn5 rfl (zn5 rfl (zp1 rfl ?_)))
   refine qb (qeR rfl rfl (zSR (zp1 rfl (qb ?_))))
   obtain rfl := qi hF; replace hF := hK4
   exact qx qc h hF ⟨rfl, trivial⟩
  replace hc11 := zb hc11
  replace hF := bifF hc11 hF
  refine qC hc11 (t := 78) rfl (qa rfl (zp1 rfl (qa rfl (zl 0 2 h rfl (qa rfl (zp1 rfl (qa rfl ?_)))))))
  obtain ⟨y5, hy5, hF⟩ := qd hF
  have he5 := qf hy5
  obtain ⟨b6, o_5, q5, cs7, hp5, hq5, -, hr8, hc12⟩ := s4.at hy5
  obtain rfl := qbc hr8
  refine zxe hp5 hq5 he5 rfl (qa rfl (zp1 rfl (qa rfl (zc 2 (hc12.below h.below) rfl (qa rfl (zp1 rfl (qa rfl (zp1 rfl (qa rfl ?_)))))))))
  obtain ⟨r4, hr9, hF⟩ := qd hF
  refine qt r4 h call35 (qau hr9) rfl rfl rfl rfl ?_
  intro w13 h
  refine qa rfl (zp2 rfl (qb ?_))
  refine qu rfl hF ?_ ?_ <;> intro hF
  ·refine zSR (zp1 rfl (qb ?_))
   obtain rfl := qi hF; replace hF := hK4
   exact qx qc h hF ⟨rfl, trivial⟩
  exact zKER (zp3 rfl (qb (qy m3 [(3, _), (5, _), (9, _)] (Nat.lt_succ_self m3) ⟨rfl, rfl, rfl, trivial⟩ ⟨_, hF, rfl, h⟩)))
 refine qH rfl ?_
 obtain rfl := qi hF; replace hF := hK4
 exact zSR (zp1 rfl (qb (qx qc h hF ⟨rfl, trivial⟩)))

def qcj (list : (List ByteArray)) (i1 : Int) : Nat → Int → Option (Flow Bool Int)
 | 0, _ => none
 | n + 1, i2 =>
  bif decide (i2 < i1) then
   (idx list i2).bind fun y2 =>
   (idx list i1).bind fun y3 =>
   bif (y2.toList == y3.toList) then
    some (.ret false)
   else
    qcj list i1 n (W64 (i2 + 1))
  else
   some (.nxt i2)

def qcb (list : (List ByteArray)) : Nat → Int → Option (Flow Bool Int)
 | 0, _ => none
 | n + 1, i1 =>
  bif decide (i1 < (list.length : Int)) then
   (idx list i1).bind fun y1 =>
   (qer n y1).bind fun r1 =>
   bif (!r1) then
    some (.ret false)
   else
    (qcj list i1 n 0).bind fun o => match o with
    | .ret r => some (.ret r)
    | .nxt _ =>
     qcb list n (W64 (i1 + 1))
  else
   some (.nxt i1)

def qd6 (n : Nat) (list : (List ByteArray)) : Option Bool :=
 (qcb list n 0).bind fun o => match o with
 | .ret r => some r
 | .nxt _ =>
  some true

theorem qgF {n : Nat} {w : World} {list : (List ByteArray)} {cs1 : List Value} (ha1 : GoT.R w (old w) list cs1) {r : Bool} (hF : qd6 n list = some r) : RetV Tryz.prog 120 [GoT.v (List ByteArray) cs1] w r := by
 obtain ⟨p1, k1, rfl, s1⟩ := ha1
 refine qe Tryz.func120 rfl (m := 31) rfl rfl (fun h => ?_)
 rw [qd6] at hF
 refine zSR (zp1 rfl (zNSSR (zp1 rfl (qb ?_))))
 obtain ⟨o1, hF, hK1⟩ := qd hF
 refine qv (qR [(0, _), (3, _)] ⟨rfl, rfl, trivial⟩ ?_)
 refine qG (fun m e w' => ∃ (i1 : Int), qcb list m i1 = some o1 ∧ e = [(0, .slice p1 list.length k1), (3, .int .i64 i1)] ∧ SH w w' []) n ⟨_, hF, rfl, h⟩ ?_
 rintro m1 e1 w1 ⟨i1, hF, rfl, h⟩
 rcases m1 with _ | m1
 ·rw [qcb] at hF
  cases hF
 rw [qcb] at hF
 refine zSSR (zp4 rfl (qb ?_))
 refine qu rfl hF ?_ ?_ <;> intro hF
 ·refine zKSB (zSSR (zp2 rfl ?_))
  obtain ⟨y1, hy1, hF⟩ := qd hF
  have he1 := qf hy1
  obtain ⟨b1, o_1, q1, cs2, hp1, hq1, -, hr1, hc2⟩ := s1.at hy1
  obtain rfl := hr1
  refine zxe hp1 hq1 he1 rfl (zc 0 (hc2.below h.below) rfl ?_)
  obtain ⟨r1, hr2, hF⟩ := qd hF
  refine qt r1 h call150 (qgZ hr2) rfl rfl rfl rfl ?_
  intro w2 h
  refine zp1 rfl (qb ?_)
  refine qu rfl hF ?_ ?_ <;> intro hF
  ·refine zSR (zp1 rfl (qb ?_))
   obtain rfl := qi hF; replace hF := hK1
   exact qx qc h hF ⟨rfl, trivial⟩
  refine zKSR (zp1 rfl (qb ?_))
  obtain ⟨o2, hF, hK2⟩ := qd hF
  refine qv (qR [(0, _), (3, _), (4, _)] ⟨rfl, rfl, rfl, trivial⟩ ?_)
  refine qG (fun m e w' => ∃ (i2 : Int), qcj list i1 m i2 = some o2 ∧ e = [(0, .slice p1 list.length k1), (3, .int .i64 i1), (4, .int .i64 i2)] ∧ SH w w' []) m1 ⟨_, hF, rfl, h⟩ ?_
  rintro m2 e2 w3 ⟨i2, hF, rfl, h⟩
  rcases m2 with _ | m2
  ·rw [qcj] at hF
   cases hF
  rw [qcj] at hF
  refine zSSR (zp3 rfl (qb ?_))
  refine qu rfl hF ?_ ?_ <;> intro hF
  ·refine zKSB (qbg ?_)
   refine qcQ rfl (by kernel_rfl) ?_
   refine zd2 rfl ?_
   obtain ⟨y2, hy2, hF⟩ := qd hF
   have he2 := qf hy2
   obtain ⟨b2, o_2, q2, cs3, hp2, hq2, -, hr3, hc5⟩ := s1.at hy2
   obtain rfl := hr3
   refine zdxe hp2 hq2 he2 rfl ?_
   refine zdc 0 (hc5.below h.below) rfl ?_
   refine zd2 rfl ?_
   obtain ⟨y3, hy3, hF⟩ := qd hF
   have he3 := qf hy3
   obtain ⟨b3, o_3, q3, cs4, hp3, hq3, -, hr4, hc6⟩ := s1.at hy3
   obtain rfl := hr4
   refine zdxe hp3 hq3 he3 rfl ?_
   refine zdc 0 (hc6.below h.below) rfl ?_
   refine zd1 rfl ?_
   refine qbj (fun w4 hb => ?_)
   replace h := h.ext hb
   clear hb
   refine qu rfl hF ?_ ?_ <;> intro hF
   ·refine zSR (zp1 rfl (qb ?_))
    obtain rfl := qi hF; replace hF := hK2
    obtain rfl := qi hF; replace hF := hK1
    exact qx qc h hF ⟨rfl, trivial⟩
   exact zKER (zp3 rfl (qb (qy m2 [(0, _), (3, _), (4, _)] (Nat.lt_succ_self m2) ⟨rfl, rfl, rfl, trivial⟩ ⟨_, hF, rfl, h⟩)))
  refine qH rfl ?_
  obtain rfl := qi hF; replace hF := hK2
  exact qem (qB (zp3 rfl (qb (qy m1 [(0, _), (3, _)] (Nat.lt_succ_self m1) ⟨rfl, rfl, trivial⟩ ⟨_, hF, rfl, h⟩))))
 refine qH rfl ?_
 obtain rfl := qi hF; replace hF := hK1
 exact zSR (zp1 rfl (qb (qx qc h hF ⟨rfl, trivial⟩)))

def qci (x5 : (List Int)) (x7 : (List Int)) : Nat → Int → Option (Flow Bool Int)
 | 0, _ => none
 | n + 1, i5 =>
  bif decide (i5 < (x5.length : Int)) then
   (idx x7 i5).bind fun y11 =>
   bif (y11 != 1) then
    some (.ret false)
   else
    qci x5 x7 n (W64 (i5 + 1))
  else
   some (.nxt i5)

def qbn (a_1 : qh) : Nat → (List Int) → Int → Option ((List Int) × Int)
 | 0, _, _ => none
 | n + 1, x7, i4 =>
  bif decide (i4 < (a_1.Ports.length : Int)) then
   (idx a_1.Ports i4).bind fun y7 =>
   bif (y7.Dir == 1) then
    (idx a_1.Ports i4).bind fun y8 =>
    (idx x7 y8.Net).bind fun y9 =>
    (idx x7 y8.Net).bind fun _ =>
    qbn a_1 n (setS x7 y8.Net (W64 (y9 + 1))) (W64 (i4 + 1))
   else
    qbn a_1 n x7 (W64 (i4 + 1))
  else
   some (x7, i4)

def qbU (a_1 : qh) : Nat → (List Int) → Int → Option ((List Int) × Int)
 | 0, _, _ => none
 | n + 1, x6, i3 =>
  bif decide (i3 < (a_1.Instances.length : Int)) then
   (idx a_1.Instances i3).bind fun y3 =>
   (idx y3.Nets (W64 ((y3.Nets.length : Int) - 1))).bind fun y4 =>
   (idx x6 y4).bind fun y5 =>
   (idx x6 y4).bind fun _ =>
   qbU a_1 n (setS x6 y4 (W64 (y5 + 1))) (W64 (i3 + 1))
  else
   some (x6, i3)

def qbO (a_1 : qh) : Nat → (List ByteArray) → Int → Option ((List ByteArray) × Int)
 | 0, _, _ => none
 | n + 1, x3, i2 =>
  bif decide (i2 < (a_1.Ports.length : Int)) then
   (idx a_1.Ports i2).bind fun y2 =>
   (appS x3 ([y2.Name] : List ByteArray)).bind fun x4 =>
   qbO a_1 n x4 (W64 (i2 + 1))
  else
   some (x3, i2)

def qbL (a_1 : qh) : Nat → (List ByteArray) → Int → Option ((List ByteArray) × Int)
 | 0, _, _ => none
 | n + 1, x1, i1 =>
  bif decide (i1 < (a_1.Instances.length : Int)) then
   (idx a_1.Instances i1).bind fun y1 =>
   (appS x1 ([y1.Name] : List ByteArray)).bind fun x2 =>
   qbL a_1 n x2 (W64 (i1 + 1))
  else
   some (x1, i1)

def qeO (n : Nat) (a_0 : qn) (a_1 : qh) : Option Bool :=
 (
  (qe4 n a_0).bind fun r4 =>
  bif (!r4) then
   some true
  else
   bif decide ((a_1.Instances.length : Int) > 14) then
    some true
   else
    bif decide ((a_1.Nets.length : Int) > 30) then
     some true
    else
     bif decide ((a_1.Ports.length : Int) > 8) then
      some true
     else
      (qfC n a_0 a_1).bind fun r5 =>
      some (!r5)).bind fun b1 =>
 bif b1 then
  some false
 else
  (qbL a_1 n ([] : List ByteArray) 0).bind fun o => match o with
  | (x1, _) =>
   (qbO a_1 n ([] : List ByteArray) 0).bind fun o => match o with
   | (x3, _) =>
    (
     (qd6 n x1).bind fun r1 =>
     bif (!r1) then
      some true
     else
      (qd6 n x3).bind fun r2 =>
      bif (!r2) then
       some true
      else
       (qd6 n a_1.Nets).bind fun r3 =>
       some (!r3)).bind fun b4 =>
    bif b4 then
     some false
    else
     (mkS (a_1.Nets.length : Int) (0 : Int)).bind fun x5 =>
     (qbU a_1 n x5 0).bind fun o => match o with
     | (x6, _) =>
      (qbn a_1 n x6 0).bind fun o => match o with
      | (x7, _) =>
       (qci x5 x7 n 0).bind fun o => match o with
       | .ret r => some r
       | .nxt _ =>
        some true

theorem qhV {n : Nat} {w : World} {a_0 : qn} {a_1 : qh} {cs1 : List Value} (ha1 : GoT.R w (old w) a_0 cs1) {cs2 : List Value} (ha2 : GoT.R w (old w) a_1 cs2) {r : Bool} (hF : qeO n a_0 a_1 = some r) : RetV Tryz.prog 67 [GoT.v qn cs1, GoT.v qh cs2] w r := by
 obtain ⟨p1, k1, rfl, s1⟩ := qbf ha1
 obtain ⟨p2, k2, p3, k3, p4, k4, rfl, s2, s3, s4⟩ := qai ha2
 refine qe Tryz.func67 rfl (m := 153) rfl rfl (fun h => ?_)
 rw [qeO] at hF
 refine zSR (qO h rfl rfl ?_)
 intro w1 bb1 h
 refine qO h rfl rfl ?_
 intro w2 bb2 h
 refine zp1 rfl (zNSS ?_)
 obtain ⟨KF2, hKF2, o7, hF, hK7⟩ := bindE hF
 refine qeA (fun e w' => ∃ (b1 : Bool), KF2 b1 = some r ∧ e = [(3, .pointer (some ⟨bb2, 0, none⟩)), (40, .bool b1)] ∧ SH w w' [Ch.box bb2 [.slice p2 a_1.Instances.length k2, .slice p3 a_1.Nets.length k3, .slice p4 a_1.Ports.length k4] 45]) ?_ ?_
 ·refine qB (zl 1 0 h rfl ?_)
  obtain ⟨r4, hr15, hF⟩ := qd hF
  refine qt r4 h call118 (qjD (h.old ha1) hr15) rfl rfl rfl rfl ?_
  intro w21 h
  refine zp2 rfl ?_
  by_cases hc23 : (!r4) = true
  ·replace hF := bifT hc23 hF
   refine qD hc23 (t := 17) rfl (zn4 rfl (zp2 rfl (zn4 rfl (zp1 rfl ?_))))
   refine zp1 rfl (zn4 rfl (zp2 rfl (zn4 rfl (zp1 rfl ?_))))
   refine qb ?_
   replace h := h.pick [0] rfl
   obtain rfl := qi hF
   exact qz [(3, _), (40, _)] ⟨rfl, rfl, trivial⟩ ⟨_, hK7, rfl, h⟩
  replace hc23 := zb hc23
  replace hF := bifF hc23 hF
  refine qC hc23 (t := 17) rfl (qa rfl (zp1 rfl (qa rfl (zl 0 0 h rfl (qa rfl (zp1 rfl (qa rfl (zp3 rfl ?_))))))))
  by_cases hc24 : (decide ((a_1.Instances.length : Int) > 14)) = true
  ·replace hF := bifT hc24 hF
   refine qD hc24 (t := 23) rfl (zn4 rfl (zp2 rfl (zn4 rfl (zp1 rfl ?_))))
   refine zp1 rfl (zn4 rfl (zp1 rfl (qb ?_)))
   replace h := h.pick [0] rfl
   obtain rfl := qi hF
   exact qz [(3, _), (40, _)] ⟨rfl, rfl, trivial⟩ ⟨_, hK7, rfl, h⟩
  replace hc24 := zb hc24
  replace hF := bifF hc24 hF
  refine qC hc24 (t := 23) rfl (qa rfl (zp1 rfl (qa rfl (zl 0 1 h rfl (qa rfl (zp1 rfl (qa rfl (zp3 rfl ?_))))))))
  by_cases hc25 : (decide ((a_1.Nets.length : Int) > 30)) = true
  ·replace hF := bifT hc25 hF
   refine qD hc25 (t := 29) rfl (zn4 rfl (zp2 rfl (zn4 rfl (zp1 rfl ?_))))
   refine qb ?_
   replace h := h.pick [0] rfl
   obtain rfl := qi hF
   exact qz [(3, _), (40, _)] ⟨rfl, rfl, trivial⟩ ⟨_, hK7, rfl, h⟩
  replace hc25 := zb hc25
  replace hF := bifF hc25 hF
  refine qC hc25 (t := 29) rfl (qa rfl (zp1 rfl (qa rfl (zl 0 2 h rfl (qa rfl (zp1 rfl (qa rfl (zp3 rfl ?_))))))))
  by_cases hc26 : (decide ((a_1.Ports.length : Int) > 8)) = true
  ·replace hF := bifT hc26 hF
   refine qD hc26 (t := 35) rfl (zn4 rfl (zp1 rfl (qb ?_)))
   replace h := h.pick [0] rfl
   obtain rfl := qi hF
   exact qz [(3, _), (40, _)] ⟨rfl, rfl, trivial⟩ ⟨_, hK7, rfl, h⟩
  replace hc26 := zb hc26
  replace hF := bifF hc26 hF
  refine qC hc26 (t := 35) rfl (qa rfl (zl 1 0 h rfl (qa rfl (zl 0 0 h rfl (qa rfl ?_)))))
  obtain ⟨r5, hr16, hF⟩ := qd hF
  refine qt r5 h call119 (qj7 (h.old ha1) (h.old ha2) hr16) rfl rfl rfl rfl ?_
  intro w22 h
  refine qa rfl (zp2 rfl (qb ?_))
  replace h := h.pick [0] rfl
  obtain rfl := qi hF
  exact qz [(3, _), (40, _)] ⟨rfl, rfl, trivial⟩ ⟨_, hK7, rfl, h⟩
 rintro e7 w23 ⟨b1, hF, rfl, h⟩
 subst hKF2
 refine qu rfl hF ?_ ?_ <;> intro hF
 ·exact zSR (zp1 rfl (qb (qx qc h hF ⟨rfl, trivial⟩)))
 refine zKSR (qas qc [] _ ([] : List ByteArray) h rfl rfl rfl rfl rfl rfl rfl rfl rfl trivial rfl ?_)
 intro w3 p5 S1 h
 refine zp1 rfl (zNSSR (zp1 rfl (qb ?_)))
 obtain ⟨o1, hF, hK1⟩ := qd hF
 refine qv (qR [(3, _), (5, _), (6, _)] ⟨rfl, rfl, rfl, trivial⟩ ?_)
 refine qG (fun m e w' => ∃ (S2 : Nat → Prop) (p6 : Option Addr) (ln1 : Nat) (k5 : Nat) (x1 : (List ByteArray)) (i1 : Int), qbL a_1 m x1 i1 = some o1 ∧ e = [(3, .pointer (some ⟨bb2, 0, none⟩)), (5, .slice p6 ln1 k5), (6, .int .i64 i1)] ∧ SH w w' [Ch.own S2 (x1 : List ByteArray) [.slice p6 ln1 k5], Ch.box bb2 [.slice p2 a_1.Instances.length k2, .slice p3 a_1.Nets.length k3, .slice p4 a_1.Ports.length k4] 45]) n ⟨_, _, _, _, _, _, hF, rfl, h⟩ ?_
 rintro m1 e1 w4 ⟨S2, p6, ln1, k5, x1, i1, hF, rfl, h⟩
 obtain rfl := (h.sl 0 rfl).2
 rcases m1 with _ | m1
 ·rw [qbL] at hF
  cases hF
 rw [qbL] at hF
 refine zSSR (zp2 rfl (zl 1 0 h rfl (zp2 rfl (qb ?_))))
 refine qu rfl hF ?_ ?_ <;> intro hF
 ·refine zKSBR (zp2 rfl (zl 1 0 h rfl (zp1 rfl ?_)))
  obtain ⟨y1, hy1, hF⟩ := qd hF
  have he1 := qf hy1
  obtain ⟨b2, o_1, q1, cs3, hp1, hq1, -, hr1, hc3⟩ := s2.at hy1
  obtain ⟨p7, k6, rfl, s5⟩ := qT hr1
  refine zxe hp1 hq1 he1 rfl (zp1 rfl (zc 0 (hc3.below h.below) rfl (qas qc [.tmp 55] _ ([y1.Name] : List ByteArray) h rfl rfl rfl rfl rfl rfl rfl rfl rfl ⟨rfl, trivial⟩ rfl ?_)))
  intro w5 p8 S3 h
  obtain ⟨x2, hx1, hF⟩ := qd hF
  obtain ⟨g1, hx1⟩ := qa2 hx1
  refine qdy qc 1 h rfl (h.sl 0 rfl).1 (h.sl 0 rfl).2 rfl rfl rfl rfl rfl rfl rfl rfl rfl g1 hx1 rfl ?_
  intro w6 p9 k7 S4 h
  refine zp1 rfl (zNER (zp3 rfl (qb ?_)))
  replace h := h.pick [1, 2] rfl
  exact qy m1 [(3, _), (5, _), (6, _)] (Nat.lt_succ_self m1) ⟨rfl, rfl, rfl, trivial⟩ ⟨_, _, _, _, _, _, hF, rfl, h⟩
 refine qH rfl ?_
 obtain rfl := qi hF; replace hF := hK1
 refine zSR (qas qc [] _ ([] : List ByteArray) h rfl rfl rfl rfl rfl rfl rfl rfl rfl trivial rfl ?_)
 intro w7 p10 S5 h
 refine zp1 rfl (zNSSR (zp1 rfl (qb ?_)))
 obtain ⟨o2, hF, hK2⟩ := qd hF
 refine qv (qR [(3, _), (5, _), (7, _), (8, _)] ⟨rfl, rfl, rfl, rfl, trivial⟩ ?_)
 refine qG (fun m e w' => ∃ (S6 : Nat → Prop) (p11 : Option Addr) (ln2 : Nat) (k8 : Nat) (x3 : (List ByteArray)) (i2 : Int), qbO a_1 m x3 i2 = some o2 ∧ e = [(3, .pointer (some ⟨bb2, 0, none⟩)), (5, .slice p6 x1.length k5), (7, .slice p11 ln2 k8), (8, .int .i64 i2)] ∧ SH w w' [Ch.own S6 (x3 : List ByteArray) [.slice p11 ln2 k8], Ch.own S2 (x1 : List ByteArray) [.slice p6 x1.length k5], Ch.box bb2 [.slice p2 a_1.Instances.length k2, .slice p3 a_1.Nets.length k3, .slice p4 a_1.Ports.length k4] 45]) n ⟨_, _, _, _, _, _, hF, rfl, h⟩ ?_
 rintro m2 e2 w8 ⟨S6, p11, ln2, k8, x3, i2, hF, rfl, h⟩
 obtain rfl := (h.sl 0 rfl).2
 rcases m2 with _ | m2
 ·rw [qbO] at hF
  cases hF
 rw [qbO] at hF
 refine zSSR (zp2 rfl (zl 2 2 h rfl (zp2 rfl (qb ?_))))
 refine qu rfl hF ?_ ?_ <;> intro hF
 ·refine zKSBR (zp2 rfl (zl 2 2 h rfl (zp1 rfl ?_)))
  obtain ⟨y2, hy2, hF⟩ := qd hF
  have he2 := qf hy2
  obtain ⟨b3, o_2, q2, cs4, hp2, hq2, -, hr2, hc5⟩ := s4.at hy2
  obtain rfl := qbc hr2
  refine zxe hp2 hq2 he2 rfl (zp1 rfl (zc 0 (hc5.below h.below) rfl (qas qc [.tmp 72] _ ([y2.Name] : List ByteArray) h rfl rfl rfl rfl rfl rfl rfl rfl rfl ⟨rfl, trivial⟩ rfl ?_)))
  intro w9 p12 S7 h
  obtain ⟨x4, hx2, hF⟩ := qd hF
  obtain ⟨g2, hx2⟩ := qa2 hx2
  refine qdy qc 1 h rfl (h.sl 0 rfl).1 (h.sl 0 rfl).2 rfl rfl rfl rfl rfl rfl rfl rfl rfl g2 hx2 rfl ?_
  intro w10 p13 k9 S8 h
  refine zp1 rfl (zNER (zp3 rfl (qb ?_)))
  replace h := h.pick [1, 2, 3] rfl
  exact qy m2 [(3, _), (5, _), (7, _), (8, _)] (Nat.lt_succ_self m2) ⟨rfl, rfl, rfl, rfl, trivial⟩ ⟨_, _, _, _, _, _, hF, rfl, h⟩
 refine qH rfl ?_
 obtain rfl := qi hF; replace hF := hK2
 refine zSS ?_
 obtain ⟨KF1, hKF1, o6, hF, hK6⟩ := bindE hF
 refine qeA (fun e w' => ∃ (b4 : Bool), KF1 b4 = some r ∧ e = [(3, .pointer (some ⟨bb2, 0, none⟩)), (88, .bool b4)] ∧ SH w w' [Ch.box bb2 [.slice p2 a_1.Instances.length k2, .slice p3 a_1.Nets.length k3, .slice p4 a_1.Ports.length k4] 45]) ?_ ?_
 ·refine qB (zp1 rfl ?_)
  obtain ⟨r1, hr12, hF⟩ := qd hF
  refine qt r1 h call120 (qgF (h.own 1 rfl) hr12) rfl rfl rfl rfl ?_
  intro w17 h
  refine zp2 rfl ?_
  by_cases hc21 : (!r1) = true
  ·replace hF := bifT hc21 hF
   refine qD hc21 (t := 78) rfl (zn3 rfl (zp2 rfl (zn4 rfl (zp1 rfl (qb ?_)))))
   replace h := h.pick [2] rfl
   obtain rfl := qi hF
   exact qz [(3, _), (88, _)] ⟨rfl, rfl, trivial⟩ ⟨_, hK6, rfl, h⟩
  replace hc21 := zb hc21
  replace hF := bifF hc21 hF
  refine qC hc21 (t := 78) rfl (qa rfl (zp1 rfl (qa rfl ?_)))
  obtain ⟨r2, hr13, hF⟩ := qd hF
  refine qt r2 h call120 (qgF (h.own 0 rfl) hr13) rfl rfl rfl rfl ?_
  intro w18 h
  refine qa rfl (zp3 rfl ?_)
  by_cases hc22 : (!r2) = true
  ·replace hF := bifT hc22 hF
   refine qD hc22 (t := 83) rfl (zn4 rfl (zp1 rfl (qb ?_)))
   replace h := h.pick [2] rfl
   obtain rfl := qi hF
   exact qz [(3, _), (88, _)] ⟨rfl, rfl, trivial⟩ ⟨_, hK6, rfl, h⟩
  replace hc22 := zb hc22
  replace hF := bifF hc22 hF
  refine qC hc22 (t := 83) rfl (qa rfl (zp1 rfl (qa rfl (zl 2 1 h rfl (qa rfl ?_)))))
  obtain ⟨r3, hr14, hF⟩ := qd hF
  refine qt r3 h call120 (qgF ⟨_, _, rfl, (h.oldS s3)⟩ hr14) rfl rfl rfl rfl ?_
  intro w19 h
  refine qa rfl (zp2 rfl (qb ?_))
  replace h := h.pick [2] rfl
  obtain rfl := qi hF
  exact qz [(3, _), (88, _)] ⟨rfl, rfl, trivial⟩ ⟨_, hK6, rfl, h⟩
 rintro e6 w20 ⟨b4, hF, rfl, h⟩
 subst hKF1
 refine qu rfl hF ?_ ?_ <;> intro hF
 ·exact zSR (zp1 rfl (qb (qx qc h hF ⟨rfl, trivial⟩)))
 refine zKSR (zp1 rfl (zl 0 1 h rfl (zp1 rfl ?_)))
 obtain ⟨x5, hx3, hF⟩ := qd hF
 obtain ⟨g3, g4, hx3⟩ := qcN hx3
 refine qdJ qc Int h rfl rfl rfl rfl rfl rfl rfl rfl rfl g3 g4 hx3 rfl ?_
 intro w11 S9 p14 h
 refine zp1 rfl (zNSSR (zp1 rfl (qb ?_)))
 obtain ⟨o3, hF, hK3⟩ := qd hF
 refine qv (qR [(3, _), (9, _), (10, _)] ⟨rfl, rfl, rfl, trivial⟩ ?_)
 refine qG (fun m e w' => ∃ (x6 : (List Int)) (i3 : Int), qbU a_1 m x6 i3 = some o3 ∧ e = [(3, .pointer (some ⟨bb2, 0, none⟩)), (9, .slice p14 x5.length x5.length), (10, .int .i64 i3)] ∧ SH w w' [Ch.own S9 (x6 : List Int) [.slice p14 x5.length x5.length], Ch.box bb2 [.slice p2 a_1.Instances.length k2, .slice p3 a_1.Nets.length k3, .slice p4 a_1.Ports.length k4] 45]) n ⟨_, _, hF, rfl, h⟩ ?_
 rintro m3 e3 w12 ⟨x6, i3, hF, rfl, h⟩
 rcases m3 with _ | m3
 ·rw [qbU] at hF
  cases hF
 rw [qbU] at hF
 refine zSSR (zp2 rfl (zl 1 0 h rfl (zp2 rfl (qb ?_))))
 refine qu rfl hF ?_ ?_ <;> intro hF
 ·refine zKSBSR (zp1 rfl (zl 1 0 h rfl (zp1 rfl ?_)))
  obtain ⟨y3, hy3, hF⟩ := qd hF
  have he3 := qf hy3
  obtain ⟨b5, o_3, q3, cs5, hp3, hq3, -, hr3, hc8⟩ := s2.at hy3
  obtain ⟨p15, k10, rfl, s6⟩ := qT hr3
  refine zxe hp3 hq3 he3 rfl (zp1 rfl (zc 2 (hc8.below h.below) rfl (zp1 rfl (qb (qB (zp5 rfl ?_))))))
  obtain ⟨y4, hy4, hF⟩ := qd hF
  have he4 := qf hy4
  obtain ⟨b6, o_4, q4, cs6, hp4, hq4, -, hr4, hc9⟩ := s6.at hy4
  obtain rfl := hr4
  refine zxe hp4 hq4 he4 rfl (zc 0 (hc9.below h.below) rfl ?_)
  obtain ⟨y5, hy5, hF⟩ := qd hF
  have he5 := qf hy5
  obtain ⟨b7, o_5, q5, cs7, hp5, hq5, -, hr5, hc10⟩ := (h.sl 0 rfl).1.at hy5
  obtain rfl := hr5
  refine zx hp5 hq5 ⟨he5.1, qah he5.2.1 (h.sl 0 rfl).2⟩ rfl (zc 0 hc10 rfl (zp1 rfl ?_))
  obtain ⟨y6, hy6, hF⟩ := qd hF
  have he6 := qf hy6
  obtain ⟨b8, o_6, q6, cs8, hp6, hq6, -, hr6, hc11⟩ := (h.sl 0 rfl).1.at hy6
  obtain rfl := hr6
  refine zx hp6 hq6 ⟨he6.1, qah he6.2.1 (h.sl 0 rfl).2⟩ rfl (qdt qc 0 0 (W64 (y5 + 1)) h rfl hy6 hp6 hq6 rfl hc11 rfl rfl rfl rfl rfl rfl rfl ?_)
  intro w13 h
  exact zNER (zp3 rfl (qb (qy m3 [(3, _), (9, _), (10, _)] (Nat.lt_succ_self m3) ⟨rfl, rfl, rfl, trivial⟩ ⟨_, _, hF, rfl, h⟩)))
 refine qH rfl ?_
 obtain rfl := qi hF; replace hF := hK3
 refine zSSR (zp1 rfl (qb ?_))
 obtain ⟨o4, hF, hK4⟩ := qd hF
 refine qv (qR [(3, _), (9, _), (12, _)] ⟨rfl, rfl, rfl, trivial⟩ ?_)
 refine qG (fun m e w' => ∃ (x7 : (List Int)) (i4 : Int), qbn a_1 m x7 i4 = some o4 ∧ e = [(3, .pointer (some ⟨bb2, 0, none⟩)), (9, .slice p14 x5.length x5.length), (12, .int .i64 i4)] ∧ SH w w' [Ch.own S9 (x7 : List Int) [.slice p14 x5.length x5.length], Ch.box bb2 [.slice p2 a_1.Instances.length k2, .slice p3 a_1.Nets.length k3, .slice p4 a_1.Ports.length k4] 45]) n ⟨_, _, hF, rfl, h⟩ ?_
 rintro m4 e4 w14 ⟨x7, i4, hF, rfl, h⟩
 rcases m4 with _ | m4
 ·rw [qbn] at hF
  cases hF
 rw [qbn] at hF
 refine zSSR (zp2 rfl (zl 1 2 h rfl (zp2 rfl (qb ?_))))
 refine qu rfl hF ?_ ?_ <;> intro hF
 ·refine zKSBSR (zp1 rfl (zl 1 2 h rfl (zp1 rfl ?_)))
  obtain ⟨y7, hy7, hF⟩ := qd hF
  have he7 := qf hy7
  obtain ⟨b9, o_7, q7, cs9, hp7, hq7, -, hr7, hc13⟩ := s4.at hy7
  obtain rfl := qbc hr7
  refine zxe hp7 hq7 he7 rfl (zp1 rfl (zc 1 (hc13.below h.below) rfl (zp1 rfl (qb ?_))))
  refine qu rfl hF ?_ ?_ <;> intro hF
  ·refine qB (zp2 rfl (zl 1 2 h rfl (zp1 rfl ?_)))
   obtain ⟨y8, hy8, hF⟩ := qd hF
   have he8 := qf hy8
   obtain ⟨b10, o_8, q8, cs10, hp8, hq8, -, hr8, hc15⟩ := s4.at hy8
   obtain rfl := qbc hr8
   refine zxe hp8 hq8 he8 rfl (zp1 rfl (zc 2 (hc15.below h.below) rfl ?_))
   obtain ⟨y9, hy9, hF⟩ := qd hF
   have he9 := qf hy9
   obtain ⟨b11, o_9, q9, cs11, hp9, hq9, -, hr9, hc16⟩ := (h.sl 0 rfl).1.at hy9
   obtain rfl := hr9
   refine zx hp9 hq9 ⟨he9.1, qah he9.2.1 (h.sl 0 rfl).2⟩ rfl (zc 0 hc16 rfl (zp1 rfl ?_))
   obtain ⟨y10, hy10, hF⟩ := qd hF
   have he10 := qf hy10
   obtain ⟨b12, o_10, q10, cs12, hp10, hq10, -, hr10, hc17⟩ := (h.sl 0 rfl).1.at hy10
   obtain rfl := hr10
   refine zx hp10 hq10 ⟨he10.1, qah he10.2.1 (h.sl 0 rfl).2⟩ rfl (qdt qc 0 0 (W64 (y9 + 1)) h rfl hy10 hp10 hq10 rfl hc17 rfl rfl rfl rfl rfl rfl rfl ?_)
   intro w15 h
   exact zNER (zp3 rfl (qb (qy m4 [(3, _), (9, _), (12, _)] (Nat.lt_succ_self m4) ⟨rfl, rfl, rfl, trivial⟩ ⟨_, _, hF, rfl, h⟩)))
  exact zKER (zp3 rfl (qb (qy m4 [(3, _), (9, _), (12, _)] (Nat.lt_succ_self m4) ⟨rfl, rfl, rfl, trivial⟩ ⟨_, _, hF, rfl, h⟩)))
 refine qH rfl ?_
 obtain rfl := qi hF; replace hF := hK4
 refine zSSR (zp1 rfl (qb ?_))
 obtain ⟨o5, hF, hK5⟩ := qd hF
 refine qv ?_
 replace h := h.pick [0] rfl
 refine qR [(9, _), (13, _)] ⟨rfl, rfl, trivial⟩ ?_
 refine qG (fun m e w' => ∃ (i5 : Int), qci x5 x7 m i5 = some o5 ∧ e = [(9, .slice p14 x5.length x5.length), (13, .int .i64 i5)] ∧ SH w w' [Ch.own S9 (x7 : List Int) [.slice p14 x5.length x5.length]]) n ⟨_, hF, rfl, h⟩ ?_
 rintro m5 e5 w16 ⟨i5, hF, rfl, h⟩
 rcases m5 with _ | m5
 ·rw [qci] at hF
  cases hF
 rw [qci] at hF
 refine zSSR (zp4 rfl (qb ?_))
 refine qu rfl hF ?_ ?_ <;> intro hF
 ·refine zKSBSR (zp2 rfl ?_)
  obtain ⟨y11, hy11, hF⟩ := qd hF
  have he11 := qf hy11
  obtain ⟨b13, o_11, q11, cs13, hp11, hq11, -, hr11, hc19⟩ := (h.sl 0 rfl).1.at hy11
  obtain rfl := hr11
  refine zx hp11 hq11 ⟨he11.1, qah he11.2.1 (h.sl 0 rfl).2⟩ rfl (zc 0 hc19 rfl (zp1 rfl (qb ?_)))
  refine qu rfl hF ?_ ?_ <;> intro hF
  ·refine zSR (zp1 rfl (qb ?_))
   obtain rfl := qi hF; replace hF := hK5
   exact qx qc h hF ⟨rfl, trivial⟩
  exact zKER (zp3 rfl (qb (qy m5 [(9, _), (13, _)] (Nat.lt_succ_self m5) ⟨rfl, rfl, trivial⟩ ⟨_, hF, rfl, h⟩)))
 refine qH rfl ?_
 obtain rfl := qi hF; replace hF := hK5
 exact zSR (zp1 rfl (qb (qx qc h hF ⟨rfl, trivial⟩)))

def qc3 (a_0 : qY) : Nat → Int → Option (Flow Bool Int)
 | 0, _ => none
 | n + 1, i2 =>
  bif decide (i2 < (a_0.Sink.length : Int)) then
   (idx a_0.Sink i2).bind fun y7 =>
   (qaN n y7 0 (W64 ((a_0.Parent.length : Int) - 1))).bind fun r5 =>
   bif (!r5) then
    some (.ret false)
   else
    qc3 a_0 n (W64 (i2 + 1))
  else
   some (.nxt i2)

def qbF (a_0 : qY) : Nat → Int → Option (Flow Bool Int)
 | 0, _ => none
 | n + 1, i1 =>
  bif decide (i1 < (a_0.Parent.length : Int)) then
   (
    (idx a_0.Cap i1).bind fun y5 =>
    (qaN n y5 0 500).bind fun r3 =>
    bif (!r3) then
     some true
    else
     (idx a_0.Res i1).bind fun y6 =>
     (qaN n y6 0 1000).bind fun r4 =>
     some (!r4)).bind fun b2 =>
   bif b2 then
    some (.ret false)
   else
    bif (i1 == 0) then
     (idx a_0.Parent i1).bind fun y1 =>
     bif (y1 != (-1)) then
      some (.ret false)
     else
      (idx a_0.Res i1).bind fun y2 =>
      bif (y2 != 0) then
       some (.ret false)
      else
       bif decide (i1 > 0) then
        (idx a_0.Parent i1).bind fun y3 =>
        (qaN n y3 0 (W64 (i1 - 1))).bind fun r1 =>
        bif (!r1) then
         some (.ret false)
        else
         qbF a_0 n (W64 (i1 + 1))
       else
        qbF a_0 n (W64 (i1 + 1))
    else
     bif decide (i1 > 0) then
      (idx a_0.Parent i1).bind fun y4 =>
      (qaN n y4 0 (W64 (i1 - 1))).bind fun r2 =>
      bif (!r2) then
       some (.ret false)
      else
       qbF a_0 n (W64 (i1 + 1))
     else
      qbF a_0 n (W64 (i1 + 1))
  else
   some (.nxt i1)

def qgO (n : Nat) (a_0 : qY) (a_1 : Int) : Option Bool :=
 (
  bif decide ((a_0.Parent.length : Int) < 1) then
   some true
  else
   bif decide ((a_0.Parent.length : Int) > 8) then
    some true
   else
    bif ((a_0.Res.length : Int) != (a_0.Parent.length : Int)) then
     some true
    else
     bif ((a_0.Cap.length : Int) != (a_0.Parent.length : Int)) then
      some true
     else
      some ((a_0.Sink.length : Int) != a_1)).bind fun b1 =>
 bif b1 then
  some false
 else
  (qbF a_0 n 0).bind fun o => match o with
  | .ret r => some r
  | .nxt _ =>
   (qc3 a_0 n 0).bind fun o => match o with
   | .ret r => some r
   | .nxt _ =>
    some true

theorem qk8 {n : Nat} {w : World} {a_0 : qY} {a_1 : Int} {cs1 : List Value} (ha1 : GoT.R w (old w) a_0 cs1) {r : Bool} (hF : qgO n a_0 a_1 = some r) : RetV Tryz.prog 68 [GoT.v qY cs1, .int .i64 a_1] w r := by
 obtain ⟨p1, k1, p2, k2, p3, k3, p4, k4, rfl, s1, s2, s3, s4⟩ := qbw ha1
 refine qe Tryz.func68 rfl (m := 108) rfl rfl (fun h => ?_)
 rw [qgO] at hF
 refine zSR (qO h rfl rfl ?_)
 intro w1 bb1 h
 refine zp1 rfl (zNSR (zp1 rfl (zl 0 0 h rfl (zp2 rfl (zNSS ?_)))))
 obtain ⟨KF2, hKF2, o4, hF, hK4⟩ := bindE hF
 refine qeA (fun e w' => ∃ (b1 : Bool), KF2 b1 = some r ∧ e = [(2, .pointer (some ⟨bb1, 0, none⟩)), (5, .int .i64 (a_0.Parent.length : Int)), (37, .bool b1)] ∧ SH w w' [Ch.box bb1 [.slice p1 a_0.Parent.length k1, .slice p2 a_0.Res.length k2, .slice p3 a_0.Cap.length k3, .slice p4 a_0.Sink.length k4] 117]) ?_ ?_
 ·refine qB (zp3 rfl ?_)
  by_cases hc21 : (decide ((a_0.Parent.length : Int) < 1)) = true
  ·replace hF := bifT hc21 hF
   refine qD hc21 (t := 13) rfl (zn2 rfl (zp2 rfl (zn5 rfl (zp2 rfl ?_))))
   refine zn5 rfl (zp2 rfl (zn5 rfl ?_))
   refine zp1 rfl (qb ?_)
   obtain rfl := qi hF
   exact qz [(2, _), (5, _), (37, _)] ⟨rfl, rfl, rfl, trivial⟩ ⟨_, hK4, rfl, h⟩
  replace hc21 := zb hc21
  replace hF := bifF hc21 hF
  refine qC hc21 (t := 13) rfl (qa rfl (zp1 rfl (qa rfl (zp3 rfl ?_))))
  by_cases hc22 : (decide ((a_0.Parent.length : Int) > 8)) = true
  ·replace hF := bifT hc22 hF
   refine qD hc22 (t := 17) rfl (zn5 rfl (zp2 rfl (zn4 rfl ?_)))
   refine zn1 rfl (zp2 rfl (zn5 rfl (zp1 rfl (qb ?_))))
   obtain rfl := qi hF
   exact qz [(2, _), (5, _), (37, _)] ⟨rfl, rfl, rfl, trivial⟩ ⟨_, hK4, rfl, h⟩
  replace hc22 := zb hc22
  replace hF := bifF hc22 hF
  refine qC hc22 (t := 17) rfl (qa rfl (zp1 rfl (qa rfl (zl 0 1 h rfl (qa rfl (zp1 rfl (qa rfl (zp1 rfl (qa rfl (zp2 rfl ?_))))))))))
  refine zp1 rfl ?_
  by_cases hc23 : ((a_0.Res.length : Int) != (a_0.Parent.length : Int)) = true
  ·replace hF := bifT hc23 hF
   refine qD hc23 (t := 24) rfl (zn5 rfl (zp2 rfl (zn4 rfl ?_)))
   refine zn1 rfl (zp1 rfl (qb ?_))
   obtain rfl := qi hF
   exact qz [(2, _), (5, _), (37, _)] ⟨rfl, rfl, rfl, trivial⟩ ⟨_, hK4, rfl, h⟩
  replace hc23 := zb hc23
  replace hF := bifF hc23 hF
  refine qC hc23 (t := 24) rfl (qa rfl (zp1 rfl (qa rfl (zl 0 2 h rfl (qa rfl (zp1 rfl (qa rfl (zp1 rfl (qa rfl (zp2 rfl ?_))))))))))
  refine zp1 rfl ?_
  by_cases hc24 : ((a_0.Cap.length : Int) != (a_0.Parent.length : Int)) = true
  ·replace hF := bifT hc24 hF
   refine qD hc24 (t := 31) rfl (zn5 rfl (zp1 rfl (qb ?_)))
   obtain rfl := qi hF
   exact qz [(2, _), (5, _), (37, _)] ⟨rfl, rfl, rfl, trivial⟩ ⟨_, hK4, rfl, h⟩
  replace hc24 := zb hc24
  replace hF := bifF hc24 hF
  refine qC hc24 (t := 31) rfl (qa rfl (zp1 rfl (qa rfl (zl 0 3 h rfl (qa rfl (zp1 rfl (qa rfl (zp1 rfl (qa rfl (zp2 rfl ?_))))))))))
  refine qb ?_
  obtain rfl := qi hF
  exact qz [(2, _), (5, _), (37, _)] ⟨rfl, rfl, rfl, trivial⟩ ⟨_, hK4, rfl, h⟩
 rintro e4 w10 ⟨b1, hF, rfl, h⟩
 subst hKF2
 refine qu rfl hF ?_ ?_ <;> intro hF
 ·exact zSR (zp1 rfl (qb (qx qc h hF ⟨rfl, trivial⟩)))
 refine zKSSR (zp1 rfl (qb ?_))
 obtain ⟨o1, hF, hK1⟩ := qd hF
 refine qv (qR [(2, _), (5, _), (6, _)] ⟨rfl, rfl, rfl, trivial⟩ ?_)
 refine qG (fun m e w' => ∃ (i1 : Int), qbF a_0 m i1 = some o1 ∧ e = [(2, .pointer (some ⟨bb1, 0, none⟩)), (5, .int .i64 (a_0.Parent.length : Int)), (6, .int .i64 i1)] ∧ SH w w' [Ch.box bb1 [.slice p1 a_0.Parent.length k1, .slice p2 a_0.Res.length k2, .slice p3 a_0.Cap.length k3, .slice p4 a_0.Sink.length k4] 117]) n ⟨_, hF, rfl, h⟩ ?_
 rintro m1 e1 w2 ⟨i1, hF, rfl, h⟩
 rcases m1 with _ | m1
 ·rw [qbF] at hF
  cases hF
 rw [qbF] at hF
 refine zSSR (zp3 rfl (qb ?_))
 refine qu rfl hF ?_ ?_ <;> intro hF
 ·refine zKSB (zSS ?_)
  obtain ⟨KF1, hKF1, o2, hF, hK2⟩ := bindE hF
  refine qeA (fun e w' => ∃ (b2 : Bool), KF1 b2 = some o1 ∧ e = [(2, .pointer (some ⟨bb1, 0, none⟩)), (5, .int .i64 (a_0.Parent.length : Int)), (6, .int .i64 i1), (58, .bool b2)] ∧ SH w w' [Ch.box bb1 [.slice p1 a_0.Parent.length k1, .slice p2 a_0.Res.length k2, .slice p3 a_0.Cap.length k3, .slice p4 a_0.Sink.length k4] 117]) ?_ ?_
  ·refine qB (zp1 rfl (zl 0 2 h rfl (zp1 rfl ?_)))
   obtain ⟨y5, hy5, hF⟩ := qd hF
   have he5 := qf hy5
   obtain ⟨b7, o_5, q5, cs6, hp5, hq5, -, hr7, hc15⟩ := s3.at hy5
   obtain rfl := hr7
   refine zxe hp5 hq5 he5 rfl (zc 0 (hc15.below h.below) rfl ?_)
   obtain ⟨r3, hr8, hF⟩ := qd hF
   refine qt r3 h call35 (qau hr8) rfl rfl rfl rfl ?_
   intro w5 h
   refine zp2 rfl ?_
   by_cases hc16 : (!r3) = true
   ·replace hF := bifT hc16 hF
    refine qD hc16 (t := 50) rfl (zn5 rfl (zn2 rfl (zp1 rfl (qb ?_))))
    obtain rfl := qi hF
    exact qz [(2, _), (5, _), (6, _), (58, _)] ⟨rfl, rfl, rfl, rfl, trivial⟩ ⟨_, hK2, rfl, h⟩
   replace hc16 := zb hc16
   replace hF := bifF hc16 hF
   refine qC hc16 (t := 50) rfl (qa rfl (zp1 rfl (qa rfl (zl 0 1 h rfl (qa rfl (zp1 rfl (qa rfl ?_)))))))
   obtain ⟨y6, hy6, hF⟩ := qd hF
   have he6 := qf hy6
   obtain ⟨b8, o_6, q6, cs7, hp6, hq6, -, hr9, hc17⟩ := s2.at hy6
   obtain rfl := hr9
   refine zxe hp6 hq6 he6 rfl (qa rfl (zc 0 (hc17.below h.below) rfl (qa rfl ?_)))
   obtain ⟨r4, hr10, hF⟩ := qd hF
   refine qt r4 h call35 (qau hr10) rfl rfl rfl rfl ?_
   intro w6 h
   refine qa rfl (zp2 rfl (qb ?_))
   obtain rfl := qi hF
   exact qz [(2, _), (5, _), (6, _), (58, _)] ⟨rfl, rfl, rfl, rfl, trivial⟩ ⟨_, hK2, rfl, h⟩
  rintro e2 w7 ⟨b2, hF, rfl, h⟩
  subst hKF1
  refine qu rfl hF ?_ ?_ <;> intro hF
  ·refine zSR (zp1 rfl (qb ?_))
   obtain rfl := qi hF; replace hF := hK1
   exact qx qc h hF ⟨rfl, trivial⟩
  refine zKSR (zp3 rfl ?_)
  by_cases hc4 : (i1 == 0) = true
  ·replace hF := bifT hc4 hF
   refine qD hc4 (t := 61) rfl (qa rfl (zp1 rfl (qa rfl (zl 0 0 h rfl (qa rfl (zp1 rfl (qa rfl ?_)))))))
   obtain ⟨y1, hy1, hF⟩ := qd hF
   have he1 := qf hy1
   obtain ⟨b3, o_1, q1, cs2, hp1, hq1, -, hr1, hc5⟩ := s1.at hy1
   obtain rfl := hr1
   refine zxe hp1 hq1 he1 rfl (qa rfl (zc 0 (hc5.below h.below) rfl (qa rfl (zp1 rfl (qa rfl (zp1 rfl ?_))))))
   by_cases hc6 : (y1 != (-1)) = true
   ·replace hF := bifT hc6 hF
    refine qD hc6 (t := 68) rfl (zn5 rfl (zn1 rfl (qa rfl (zp3 rfl (zn1 rfl ?_)))))
    refine zn5 rfl (zn5 rfl (zn2 rfl ?_))
    refine zp1 rfl (qb (qeR rfl rfl (zSR (zp1 rfl (qb ?_)))))
    obtain rfl := qi hF; replace hF := hK1
    exact qx qc h hF ⟨rfl, trivial⟩
   replace hc6 := zb hc6
   replace hF := bifF hc6 hF
   refine qC hc6 (t := 68) rfl (qa rfl (zp1 rfl (qa rfl (zl 0 1 h rfl (qa rfl (zp1 rfl (qa rfl ?_)))))))
   obtain ⟨y2, hy2, hF⟩ := qd hF
   have he2 := qf hy2
   obtain ⟨b4, o_2, q2, cs3, hp2, hq2, -, hr2, hc7⟩ := s2.at hy2
   obtain rfl := hr2
   refine zxe hp2 hq2 he2 rfl (qa rfl (zc 0 (hc7.below h.below) rfl (qa rfl (zp1 rfl (qa rfl (zp3 rfl ?_))))))
   by_cases hc8 : (y2 != 0) = true
   ·replace hF := bifT hc8 hF
    refine qD hc8 (t := 77) rfl (zn5 rfl (zn5 rfl (zn1 rfl ?_)))
    refine zn2 rfl (zp1 rfl (qb (qeR rfl rfl (zSR (zp1 rfl (qb ?_))))))
    obtain rfl := qi hF; replace hF := hK1
    exact qx qc h hF ⟨rfl, trivial⟩
   replace hc8 := zb hc8
   replace hF := bifF hc8 hF
   refine qC hc8 (t := 77) rfl (qa rfl (zp1 rfl (qa rfl (zp1 rfl (qa rfl (zp1 rfl ?_))))))
   by_cases hc9 : (decide (i1 > 0)) = true
   ·replace hF := bifT hc9 hF
    refine qD hc9 (t := 80) rfl (qa rfl (zp1 rfl (qa rfl (zl 0 0 h rfl (qa rfl (zp1 rfl (qa rfl ?_)))))))
    obtain ⟨y3, hy3, hF⟩ := qd hF
    have he3 := qf hy3
    obtain ⟨b5, o_3, q3, cs4, hp3, hq3, -, hr3, hc10⟩ := s1.at hy3
    obtain rfl := hr3
    refine zxe hp3 hq3 he3 rfl (qa rfl (zc 0 (hc10.below h.below) rfl (qa rfl (zp1 rfl (qa rfl (zp1 rfl (qa rfl ?_)))))))
    obtain ⟨r1, hr4, hF⟩ := qd hF
    refine qt r1 h call35 (qau hr4) rfl rfl rfl rfl ?_
    intro w3 h
    refine qa rfl (zp1 rfl (qa rfl (zp2 rfl (qb ?_))))
    refine qu rfl hF ?_ ?_ <;> intro hF
    ·refine zSR (zp1 rfl (qb ?_))
     obtain rfl := qi hF; replace hF := hK1
     exact qx qc h hF ⟨rfl, trivial⟩
    exact zKER (zp3 rfl (qb (qy m1 [(2, _), (5, _), (6, _)] (Nat.lt_succ_self m1) ⟨rfl, rfl, rfl, trivial⟩ ⟨_, hF, rfl, h⟩)))
   replace hc9 := zb hc9
   replace hF := bifF hc9 hF
   refine qC hc9 (t := 80) rfl (zn5 rfl (zn4 rfl (qa rfl (zp1 rfl ?_))))
   exact zp1 rfl (qb (qev rfl rfl (zKER (zp3 rfl (qb (qy m1 [(2, _), (5, _), (6, _)] (Nat.lt_succ_self m1) ⟨rfl, rfl, rfl, trivial⟩ ⟨_, hF, rfl, h⟩))))))
  replace hc4 := zb hc4
  replace hF := bifF hc4 hF
  refine qC hc4 (t := 61) rfl (zn5 rfl (zn5 rfl (zn1 rfl ?_)))
  refine zn3 rfl (zp2 rfl (qa rfl (zp1 rfl (qa rfl (zp1 rfl (qa rfl (zp1 rfl ?_)))))))
  by_cases hc12 : (decide (i1 > 0)) = true
  ·replace hF := bifT hc12 hF
   refine qD hc12 (t := 80) rfl (qa rfl (zp1 rfl (qa rfl (zl 0 0 h rfl (qa rfl (zp1 rfl (qa rfl ?_)))))))
   obtain ⟨y4, hy4, hF⟩ := qd hF
   have he4 := qf hy4
   obtain ⟨b6, o_4, q4, cs5, hp4, hq4, -, hr5, hc13⟩ := s1.at hy4
   obtain rfl := hr5
   refine zxe hp4 hq4 he4 rfl (qa rfl (zc 0 (hc13.below h.below) rfl (qa rfl (zp1 rfl (qa rfl (zp1 rfl (qa rfl ?_)))))))
   obtain ⟨r2, hr6, hF⟩ := qd hF
   refine qt r2 h call35 (qau hr6) rfl rfl rfl rfl ?_
   intro w4 h
   refine qa rfl (zp1 rfl (qa rfl (zp2 rfl (qb ?_))))
   refine qu rfl hF ?_ ?_ <;> intro hF
   ·refine zSR (zp1 rfl (qb ?_))
    obtain rfl := qi hF; replace hF := hK1
    exact qx qc h hF ⟨rfl, trivial⟩
   exact zKER (zp3 rfl (qb (qy m1 [(2, _), (5, _), (6, _)] (Nat.lt_succ_self m1) ⟨rfl, rfl, rfl, trivial⟩ ⟨_, hF, rfl, h⟩)))
  replace hc12 := zb hc12
  replace hF := bifF hc12 hF
  refine qC hc12 (t := 80) rfl (zn5 rfl (zn4 rfl (qa rfl (zp1 rfl ?_))))
  exact zp1 rfl (qb (qev rfl rfl (zKER (zp3 rfl (qb (qy m1 [(2, _), (5, _), (6, _)] (Nat.lt_succ_self m1) ⟨rfl, rfl, rfl, trivial⟩ ⟨_, hF, rfl, h⟩))))))
 refine qH rfl ?_
 obtain rfl := qi hF; replace hF := hK1
 refine zSSR (zp1 rfl (qb ?_))
 obtain ⟨o3, hF, hK3⟩ := qd hF
 refine qv (qR [(2, _), (5, _), (7, _)] ⟨rfl, rfl, rfl, trivial⟩ ?_)
 refine qG (fun m e w' => ∃ (i2 : Int), qc3 a_0 m i2 = some o3 ∧ e = [(2, .pointer (some ⟨bb1, 0, none⟩)), (5, .int .i64 (a_0.Parent.length : Int)), (7, .int .i64 i2)] ∧ SH w w' [Ch.box bb1 [.slice p1 a_0.Parent.length k1, .slice p2 a_0.Res.length k2, .slice p3 a_0.Cap.length k3, .slice p4 a_0.Sink.length k4] 117]) n ⟨_, hF, rfl, h⟩ ?_
 rintro m2 e3 w8 ⟨i2, hF, rfl, h⟩
 rcases m2 with _ | m2
 ·rw [qc3] at hF
  cases hF
 rw [qc3] at hF
 refine zSSR (zp2 rfl (zl 0 3 h rfl (zp2 rfl (qb ?_))))
 refine qu rfl hF ?_ ?_ <;> intro hF
 ·refine zKSBSR (zp1 rfl (zl 0 3 h rfl (zp1 rfl ?_)))
  obtain ⟨y7, hy7, hF⟩ := qd hF
  have he7 := qf hy7
  obtain ⟨b9, o_7, q7, cs8, hp7, hq7, -, hr11, hc19⟩ := s4.at hy7
  obtain rfl := hr11
  refine zxe hp7 hq7 he7 rfl (zc 0 (hc19.below h.below) rfl (zp2 rfl ?_))
  obtain ⟨r5, hr12, hF⟩ := qd hF
  refine qt r5 h call35 (qau hr12) rfl rfl rfl rfl ?_
  intro w9 h
  refine zp1 rfl (qb ?_)
  refine qu rfl hF ?_ ?_ <;> intro hF
  ·refine zSR (zp1 rfl (qb ?_))
   obtain rfl := qi hF; replace hF := hK3
   exact qx qc h hF ⟨rfl, trivial⟩
  exact zKER (zp3 rfl (qb (qy m2 [(2, _), (5, _), (7, _)] (Nat.lt_succ_self m2) ⟨rfl, rfl, rfl, trivial⟩ ⟨_, hF, rfl, h⟩)))
 refine qH rfl ?_
 obtain rfl := qi hF; replace hF := hK3
 exact zSR (zp1 rfl (qb (qx qc h hF ⟨rfl, trivial⟩)))

def qby (i1 : Int) (y1 : ql) : Nat → (List Tl05Place) → Int → Option ((List Tl05Place) × Int)
 | 0, _, _ => none
 | n + 1, x2, i2 =>
  bif decide (i2 < (y1.Nets.length : Int)) then
   (idx y1.Nets i2).bind fun y2 =>
   (appS x2 ([(⟨i1, i2, y2, (i2 == (W64 ((y1.Nets.length : Int) - 1)))⟩ : Tl05Place)] : List Tl05Place)).bind fun x3 =>
   qby i1 y1 n x3 (W64 (i2 + 1))
  else
   some (x2, i2)

def qbz (a_0 : qh) : Nat → (List Tl05Place) → Int → Option ((List Tl05Place) × Int)
 | 0, _, _ => none
 | n + 1, x4, i3 =>
  bif decide (i3 < (a_0.Ports.length : Int)) then
   (idx a_0.Ports i3).bind fun y3 =>
   (idx a_0.Ports i3).bind fun y4 =>
   (appS x4 ([(⟨(-1), i3, y3.Net, (y4.Dir == 1)⟩ : Tl05Place)] : List Tl05Place)).bind fun x5 =>
   qbz a_0 n x5 (W64 (i3 + 1))
  else
   some (x4, i3)

def qbB (a_0 : qh) : Nat → (List Tl05Place) → Int → Option ((List Tl05Place) × Int)
 | 0, _, _ => none
 | n + 1, x1, i1 =>
  bif decide (i1 < (a_0.Instances.length : Int)) then
   (idx a_0.Instances i1).bind fun y1 =>
   (qby i1 y1 n x1 0).bind fun o => match o with
   | (x2, _) =>
    qbB a_0 n x2 (W64 (i1 + 1))
  else
   some (x1, i1)

def qcw (n : Nat) (a_0 : qh) : Option (List Tl05Place) :=
 (qbB a_0 n ([] : List Tl05Place) 0).bind fun o => match o with
 | (x1, _) =>
  (qbz a_0 n x1 0).bind fun o => match o with
  | (x4, _) =>
   some x4

theorem qdU {n : Nat} {w : World} {a_0 : qh} {cs1 : List Value} (ha1 : GoT.R w (old w) a_0 cs1) {r : (List Tl05Place)} (hF : qcw n a_0 = some r) : RetV Tryz.prog 93 [GoT.v qh cs1] w r := by
 obtain ⟨p1, k1, p2, k2, p3, k3, rfl, s1, s2, s3⟩ := qai ha1
 refine qe Tryz.func93 rfl (m := 69) rfl rfl (fun h => ?_)
 rw [qcw] at hF
 refine zSR (qO h rfl rfl ?_)
 intro w1 bb1 h
 refine zp1 rfl (zNSR (qas qc [] _ ([] : List Tl05Place) h rfl rfl rfl rfl rfl rfl rfl rfl rfl trivial rfl ?_))
 intro w2 p4 S1 h
 refine zp1 rfl (zNSSR (zp1 rfl (qb ?_)))
 obtain ⟨o1, hF, hK1⟩ := qd hF
 refine qv (qR [(1, _), (3, _), (4, _)] ⟨rfl, rfl, rfl, trivial⟩ ?_)
 refine qG (fun m e w' => ∃ (S2 : Nat → Prop) (p5 : Option Addr) (ln1 : Nat) (k4 : Nat) (x1 : (List Tl05Place)) (i1 : Int), qbB a_0 m x1 i1 = some o1 ∧ e = [(1, .pointer (some ⟨bb1, 0, none⟩)), (3, .slice p5 ln1 k4), (4, .int .i64 i1)] ∧ SH w w' [Ch.own S2 (x1 : List Tl05Place) [.slice p5 ln1 k4], Ch.box bb1 [.slice p1 a_0.Instances.length k1, .slice p2 a_0.Nets.length k2, .slice p3 a_0.Ports.length k3] 45]) n ⟨_, _, _, _, _, _, hF, rfl, h⟩ ?_
 rintro m1 e1 w3 ⟨S2, p5, ln1, k4, x1, i1, hF, rfl, h⟩
 obtain rfl := (h.sl 0 rfl).2
 rcases m1 with _ | m1
 ·rw [qbB] at hF
  cases hF
 rw [qbB] at hF
 refine zSSR (zp2 rfl (zl 1 0 h rfl (zp2 rfl (qb ?_))))
 refine qu rfl hF ?_ ?_ <;> intro hF
 ·refine zKSBSR (zp1 rfl (zl 1 0 h rfl (zp1 rfl ?_)))
  obtain ⟨y1, hy1, hF⟩ := qd hF
  have he1 := qf hy1
  obtain ⟨b1, o_1, q1, cs2, hp1, hq1, -, hr1, hc2⟩ := s1.at hy1
  obtain ⟨p6, k5, rfl, s4⟩ := qT hr1
  refine zxe hp1 hq1 he1 rfl (zp1 rfl (zc 2 (hc2.below h.below) rfl (zp1 rfl (zNSR (zp1 rfl (qb ?_))))))
  obtain ⟨o2, hF, hK2⟩ := qd hF
  refine qv (qR [(1, _), (3, _), (4, _), (5, _), (6, _)] ⟨rfl, rfl, rfl, rfl, rfl, trivial⟩ ?_)
  refine qG (fun m e w' => ∃ (S3 : Nat → Prop) (p7 : Option Addr) (ln2 : Nat) (k6 : Nat) (x2 : (List Tl05Place)) (i2 : Int), qby i1 y1 m x2 i2 = some o2 ∧ e = [(1, .pointer (some ⟨bb1, 0, none⟩)), (3, .slice p7 ln2 k6), (4, .int .i64 i1), (5, .slice p6 y1.Nets.length k5), (6, .int .i64 i2)] ∧ SH w w' [Ch.own S3 (x2 : List Tl05Place) [.slice p7 ln2 k6], Ch.box bb1 [.slice p1 a_0.Instances.length k1, .slice p2 a_0.Nets.length k2, .slice p3 a_0.Ports.length k3] 45]) m1 ⟨_, _, _, _, _, _, hF, rfl, h⟩ ?_
  rintro m2 e2 w4 ⟨S3, p7, ln2, k6, x2, i2, hF, rfl, h⟩
  obtain rfl := (h.sl 0 rfl).2
  rcases m2 with _ | m2
  ·rw [qby] at hF
   cases hF
  rw [qby] at hF
  refine zSSR (zp4 rfl (qb ?_))
  refine qu rfl hF ?_ ?_ <;> intro hF
  ·refine zKSBR (zp5 rfl ?_)
   obtain ⟨y2, hy2, hF⟩ := qd hF
   have he2 := qf hy2
   obtain ⟨b2, o_2, q2, cs3, hp2, hq2, -, hr2, hc4⟩ := s4.at hy2
   obtain rfl := hr2
   refine zxe hp2 hq2 he2 rfl (zc 0 (hc4.below h.below) rfl (zp5 rfl (r_v (qgg qc [0, 1, 2, 3] [.tmp 29, .tmp 30, .tmp 34, .tmp 39] rfl rfl rfl rfl rfl rfl rfl rfl) rfl (qas qc [.tmp 40] _ ([(⟨i1, i2, y2, (i2 == (W64 ((y1.Nets.length : Int) - 1)))⟩ : Tl05Place)] : List Tl05Place) h rfl rfl rfl rfl rfl rfl rfl rfl rfl ⟨(qfw (⟨i1, i2, y2, (i2 == (W64 ((y1.Nets.length : Int) - 1)))⟩ : Tl05Place)), trivial⟩ rfl ?_))))
   intro w5 p8 S4 h
   obtain ⟨x3, hx1, hF⟩ := qd hF
   obtain ⟨g1, hx1⟩ := qa2 hx1
   refine qdy qc 1 h rfl (h.sl 0 rfl).1 (h.sl 0 rfl).2 rfl rfl rfl rfl rfl rfl rfl rfl rfl g1 hx1 rfl ?_
   intro w6 p9 k7 S5 h
   refine zp1 rfl (zNER (zp3 rfl (qb ?_)))
   replace h := h.pick [1, 2] rfl
   exact qy m2 [(1, _), (3, _), (4, _), (5, _), (6, _)] (Nat.lt_succ_self m2) ⟨rfl, rfl, rfl, rfl, rfl, trivial⟩ ⟨_, _, _, _, _, _, hF, rfl, h⟩
  refine qH rfl ?_
  obtain rfl := qi hF; replace hF := hK2
  exact qem (qB (zp3 rfl (qb (qy m1 [(1, _), (3, _), (4, _)] (Nat.lt_succ_self m1) ⟨rfl, rfl, rfl, trivial⟩ ⟨_, _, _, _, _, _, hF, rfl, h⟩))))
 refine qH rfl ?_
 obtain rfl := qi hF; replace hF := hK1
 refine zSSR (zp1 rfl (qb ?_))
 obtain ⟨o3, hF, hK3⟩ := qd hF
 refine qv (qR [(1, _), (3, _), (7, _)] ⟨rfl, rfl, rfl, trivial⟩ ?_)
 refine qG (fun m e w' => ∃ (S6 : Nat → Prop) (p10 : Option Addr) (ln3 : Nat) (k8 : Nat) (x4 : (List Tl05Place)) (i3 : Int), qbz a_0 m x4 i3 = some o3 ∧ e = [(1, .pointer (some ⟨bb1, 0, none⟩)), (3, .slice p10 ln3 k8), (7, .int .i64 i3)] ∧ SH w w' [Ch.own S6 (x4 : List Tl05Place) [.slice p10 ln3 k8], Ch.box bb1 [.slice p1 a_0.Instances.length k1, .slice p2 a_0.Nets.length k2, .slice p3 a_0.Ports.length k3] 45]) n ⟨_, _, _, _, _, _, hF, rfl, h⟩ ?_
 rintro m3 e3 w7 ⟨S6, p10, ln3, k8, x4, i3, hF, rfl, h⟩
 obtain rfl := (h.sl 0 rfl).2
 rcases m3 with _ | m3
 ·rw [qbz] at hF
  cases hF
 rw [qbz] at hF
 refine zSSR (zp2 rfl (zl 1 2 h rfl (zp2 rfl (qb ?_))))
 refine qu rfl hF ?_ ?_ <;> intro hF
 ·refine zKSB ?_
  refine qfo [] (fun w' => SH w w' [Ch.box bb1 [.slice p1 a_0.Instances.length k1, .slice p2 a_0.Nets.length k2, .slice p3 a_0.Ports.length k3] 45]) rfl 19 rfl #[ff, ff, ff, ff, ff, ff, ff, ff, ff, ff, ff, ff, ff, ff, ff, ff, ff, ff, ff] (by kernel_rfl) (fun w8 hb => ?_)
  replace h := h.ext hb
  clear hb
  refine qj 0 rfl #[tt, ff, ff, ff, ff, ff, ff, ff, ff, ff, ff, ff, ff, ff, ff, ff, ff, ff, ff] (by kernel_rfl) (by kernel_rfl) (fun w' hw => v_p qc rfl w') (h.pick [1] rfl) rfl ?_
  refine qj 1 rfl #[tt, tt, ff, ff, ff, ff, ff, ff, ff, ff, ff, ff, ff, ff, ff, ff, ff, ff, ff] (by kernel_rfl) (by kernel_rfl) (fun w' hw => v_p qc rfl w') (h.pick [1] rfl) rfl ?_
  refine qj 2 rfl #[tt, tt, tt, ff, ff, ff, ff, ff, ff, ff, ff, ff, ff, ff, ff, ff, ff, ff, ff] (by kernel_rfl) (by kernel_rfl) (fun w' hw => v_p qc rfl w') (h.pick [1] rfl) rfl ?_
  refine qj 3 rfl #[tt, tt, tt, tt, ff, ff, ff, ff, ff, ff, ff, ff, ff, ff, ff, ff, ff, ff, ff] (by kernel_rfl) (by kernel_rfl) (fun w' hw => qbx qc (hw.box 0 rfl) (j := 2) rfl rfl rfl) (h.pick [1] rfl) rfl ?_
  refine qj 4 rfl #[tt, tt, tt, tt, tt, ff, ff, ff, ff, ff, ff, ff, ff, ff, ff, ff, ff, ff, ff] (by kernel_rfl) (by kernel_rfl) (fun w' hw => v_p qc rfl w') (h.pick [1] rfl) rfl ?_
  obtain ⟨y3, hy3, hF⟩ := qd hF
  have he3 := qf hy3
  obtain ⟨b3, o_3, q3, cs4, hp3, hq3, -, hr3, hc6⟩ := s3.at hy3
  obtain rfl := qbc hr3
  refine qj 5 rfl #[tt, tt, tt, tt, tt, tt, ff, ff, ff, ff, ff, ff, ff, ff, ff, ff, ff, ff, ff] (by kernel_rfl) (by kernel_rfl) (fun w' hw => qfq qc hp3 hq3 ⟨he3.1, he3.2.1⟩ rfl rfl rfl rfl rfl rfl) (h.pick [1] rfl) rfl ?_
  refine qj 6 rfl #[tt, tt, tt, tt, tt, tt, tt, ff, ff, ff, ff, ff, ff, ff, ff, ff, ff, ff, ff] (by kernel_rfl) (by kernel_rfl) (fun w' hw => v_p qc rfl w') (h.pick [1] rfl) rfl ?_
  refine qj 7 rfl #[tt, tt, tt, tt, tt, tt, tt, tt, ff, ff, ff, ff, ff, ff, ff, ff, ff, ff, ff] (by kernel_rfl) (by kernel_rfl) (fun w' hw => qbx qc (hc6.below hw.below) (j := 2) rfl rfl rfl) (h.pick [1] rfl) rfl ?_
  refine qj 8 rfl #[tt, tt, tt, tt, tt, tt, tt, tt, tt, ff, ff, ff, ff, ff, ff, ff, ff, ff, ff] (by kernel_rfl) (by kernel_rfl) (fun w' hw => v_p qc rfl w') (h.pick [1] rfl) rfl ?_
  refine qj 9 rfl #[tt, tt, tt, tt, tt, tt, tt, tt, tt, tt, ff, ff, ff, ff, ff, ff, ff, ff, ff] (by kernel_rfl) (by kernel_rfl) (fun w' hw => qbx qc (hw.box 0 rfl) (j := 2) rfl rfl rfl) (h.pick [1] rfl) rfl ?_
  refine qj 10 rfl #[tt, tt, tt, tt, tt, tt, tt, tt, tt, tt, tt, ff, ff, ff, ff, ff, ff, ff, ff] (by kernel_rfl) (by kernel_rfl) (fun w' hw => v_p qc rfl w') (h.pick [1] rfl) rfl ?_
  obtain ⟨y4, hy4, hF⟩ := qd hF
  have he4 := qf hy4
  obtain ⟨b4, o_4, q4, cs5, hp4, hq4, -, hr4, hc7⟩ := s3.at hy4
  obtain rfl := qbc hr4
  refine qj 11 rfl #[tt, tt, tt, tt, tt, tt, tt, tt, tt, tt, tt, tt, ff, ff, ff, ff, ff, ff, ff] (by kernel_rfl) (by kernel_rfl) (fun w' hw => qfq qc hp4 hq4 ⟨he4.1, he4.2.1⟩ rfl rfl rfl rfl rfl rfl) (h.pick [1] rfl) rfl ?_
  refine qj 12 rfl #[tt, tt, tt, tt, tt, tt, tt, tt, tt, tt, tt, tt, tt, ff, ff, ff, ff, ff, ff] (by kernel_rfl) (by kernel_rfl) (fun w' hw => v_p qc rfl w') (h.pick [1] rfl) rfl ?_
  refine qj 13 rfl #[tt, tt, tt, tt, tt, tt, tt, tt, tt, tt, tt, tt, tt, tt, ff, ff, ff, ff, ff] (by kernel_rfl) (by kernel_rfl) (fun w' hw => qbx qc (hc7.below hw.below) (j := 1) rfl rfl rfl) (h.pick [1] rfl) rfl ?_
  refine qj 14 rfl #[tt, tt, tt, tt, tt, tt, tt, tt, tt, tt, tt, tt, tt, tt, tt, ff, ff, ff, ff] (by kernel_rfl) (by kernel_rfl) (fun w' hw => v_p qc rfl w') (h.pick [1] rfl) rfl ?_
  refine qj 15 rfl #[tt, tt, tt, tt, tt, tt, tt, tt, tt, tt, tt, tt, tt, tt, tt, tt, ff, ff, ff] (by kernel_rfl) (by kernel_rfl) (fun w' hw => qgg qc [0, 1, 2, 3] [.const (.int .i64 (-1)), .tmp 51, .tmp 57, .tmp 64] rfl rfl rfl rfl rfl rfl rfl rfl) (h.pick [1] rfl) rfl ?_
  refine qaz 16 rfl #[tt, tt, tt, tt, tt, tt, tt, tt, tt, tt, tt, tt, tt, tt, tt, tt, tt, ff, ff] (by kernel_rfl) (by kernel_rfl) ?_
  refine qas qc [.tmp 65] _ ([(⟨(-1), i3, y3.Net, (y4.Dir == 1)⟩ : Tl05Place)] : List Tl05Place) h rfl rfl rfl rfl rfl rfl rfl rfl rfl ⟨(qfw (⟨(-1), i3, y3.Net, (y4.Dir == 1)⟩ : Tl05Place)), trivial⟩ rfl ?_
  intro w9 p11 S7 h
  refine qam (fun _ => (h.pick [2] rfl)) ?_
  refine qaz 17 rfl #[tt, tt, tt, tt, tt, tt, tt, tt, tt, tt, tt, tt, tt, tt, tt, tt, tt, tt, ff] (by kernel_rfl) (by kernel_rfl) ?_
  obtain ⟨x5, hx2, hF⟩ := qd hF
  obtain ⟨g2, hx2⟩ := qa2 hx2
  refine qdy qc 1 h rfl (h.sl 0 rfl).1 (h.sl 0 rfl).2 rfl rfl rfl rfl rfl rfl rfl rfl rfl g2 hx2 rfl ?_
  intro w10 p12 k9 S8 h
  refine qam (fun _ => (h.pick [2] rfl)) ?_
  refine qj 18 rfl #[tt, tt, tt, tt, tt, tt, tt, tt, tt, tt, tt, tt, tt, tt, tt, tt, tt, tt, tt] (by kernel_rfl) (by kernel_rfl) (fun w' hw => v_p qc rfl w') (h.pick [2] rfl) rfl ?_
  refine qdD (by kernel_rfl) ?_
  refine qem (qB (zp3 rfl (qb ?_)))
  replace h := h.pick [1, 2] rfl
  exact qy m3 [(1, _), (3, _), (7, _)] (Nat.lt_succ_self m3) ⟨rfl, rfl, rfl, trivial⟩ ⟨_, _, _, _, _, _, hF, rfl, h⟩
 refine qH rfl ?_
 obtain rfl := qi hF; replace hF := hK3
 refine zSR (zp2 rfl (qb ?_))
 obtain rfl := qi hF
 exact qaf qc (ρ := (List Tl05Place)) [GoT.v (List Tl05Place) [.slice p10 x4.length k8]] h ⟨rfl, trivial⟩ (PV.done h (qan (qax 0 h rfl)))

def qbl (net : Int) (r1 : (List Tl05Place)) : Nat → (List Int) → Int → Option ((List Int) × Int)
 | 0, _, _ => none
 | n + 1, x1, i1 =>
  bif decide (i1 < (r1.length : Int)) then
   (
    (idx r1 i1).bind fun y1 =>
    bif (y1.net == net) then
     (idx r1 i1).bind fun y2 =>
     some (!y2.drives)
    else
     some false).bind fun b1 =>
   bif b1 then
    (appS x1 ([i1] : List Int)).bind fun x2 =>
    qbl net r1 n x2 (W64 (i1 + 1))
   else
    qbl net r1 n x1 (W64 (i1 + 1))
  else
   some (x1, i1)

def qeN (n : Nat) (d : qh) (net : Int) : Option (List Int) :=
 (qcw n d).bind fun r1 =>
 (qbl net r1 n ([] : List Int) 0).bind fun o => match o with
 | (x1, _) =>
  some x1

theorem qh3 {n : Nat} {w : World} {d : qh} {net : Int} {cs1 : List Value} (ha1 : GoT.R w (old w) d cs1) {r : (List Int)} (hF : qeN n d net = some r) : RetV Tryz.prog 69 [GoT.v qh cs1, .int .i64 net] w r := by
 obtain ⟨p1, k1, p2, k2, p3, k3, rfl, s1, s2, s3⟩ := qai ha1
 refine qe Tryz.func69 rfl (m := 37) rfl rfl (fun h => ?_)
 rw [qeN] at hF
 refine zSR (qO h rfl rfl ?_)
 intro w1 bb1 h
 refine zp1 rfl (zNSR (qas qc [] _ ([] : List Int) h rfl rfl rfl rfl rfl rfl rfl rfl rfl trivial rfl ?_))
 intro w2 p4 S1 h
 refine zp1 rfl (zNSR (zl 1 0 h rfl ?_))
 obtain ⟨r1, hr1, hF⟩ := qd hF
 refine qav r1 h call93 (qdU (h.old ha1) hr1) rfl rfl rfl rfl ?_
 intro w3 S2 p5 k4 h
 refine zp1 rfl (zNSSR (zp1 rfl (qb ?_)))
 obtain ⟨o1, hF, hK1⟩ := qd hF
 refine qv ?_
 replace h := h.pick [0, 1] rfl
 refine qR [(1, _), (5, _), (6, _), (7, _)] ⟨rfl, rfl, rfl, rfl, trivial⟩ ?_
 refine qG (fun m e w' => ∃ (S3 : Nat → Prop) (p6 : Option Addr) (ln1 : Nat) (k5 : Nat) (x1 : (List Int)) (i1 : Int), qbl net r1 m x1 i1 = some o1 ∧ e = [(1, .int .i64 net), (5, .slice p6 ln1 k5), (6, .slice p5 r1.length k4), (7, .int .i64 i1)] ∧ SH w w' [Ch.own S2 (r1 : List Tl05Place) [.slice p5 r1.length k4], Ch.own S3 (x1 : List Int) [.slice p6 ln1 k5]]) n ⟨_, _, _, _, _, _, hF, rfl, h⟩ ?_
 rintro m1 e1 w4 ⟨S3, p6, ln1, k5, x1, i1, hF, rfl, h⟩
 obtain rfl := (h.sl 1 rfl).2
 rcases m1 with _ | m1
 ·rw [qbl] at hF
  cases hF
 rw [qbl] at hF
 refine zSSR (zp4 rfl (qb ?_))
 refine qu rfl hF ?_ ?_ <;> intro hF
 ·refine zKSB (qbg ?_)
  obtain ⟨KF1, hKF1, o2, hF, hK2⟩ := bindE hF
  refine qeA (fun e w' => ∃ (b1 : Bool), KF1 b1 = some o1 ∧ e = [(1, .int .i64 net), (5, .slice p6 x1.length k5), (6, .slice p5 r1.length k4), (7, .int .i64 i1), (31, .bool b1)] ∧ SH w w' [Ch.own S2 (r1 : List Tl05Place) [.slice p5 r1.length k4], Ch.own S3 (x1 : List Int) [.slice p6 x1.length k5]]) ?_ ?_
  ·refine qB (zp2 rfl ?_)
   obtain ⟨y1, hy1, hF⟩ := qd hF
   have he1 := qf hy1
   obtain ⟨b2, o_1, q1, cs2, hp1, hq1, -, hr2, hc3⟩ := (h.sl 0 rfl).1.at hy1
   obtain rfl := qb2 hr2
   refine zx hp1 hq1 ⟨he1.1, qah he1.2.1 (h.sl 0 rfl).2⟩ rfl (zp1 rfl (zc 2 hc3 rfl (zp3 rfl ?_)))
   by_cases hc4 : (y1.net == net) = true
   ·replace hF := bifT hc4 hF
    refine qD hc4 (t := 24) rfl (qa rfl (zp1 rfl (qa rfl (zp1 rfl (qa rfl ?_)))))
    obtain ⟨y2, hy2, hF⟩ := qd hF
    have he2 := qf hy2
    obtain ⟨b3, o_2, q2, cs3, hp2, hq2, -, hr3, hc5⟩ := (h.sl 0 rfl).1.at hy2
    obtain rfl := qb2 hr3
    refine zx hp2 hq2 ⟨he2.1, qah he2.2.1 (h.sl 0 rfl).2⟩ rfl (qa rfl (zp1 rfl (qa rfl (zc 3 hc5 rfl (qa rfl (zp2 rfl (qb ?_)))))))
    obtain rfl := qi hF
    exact qz [(1, _), (5, _), (6, _), (7, _), (31, _)] ⟨rfl, rfl, rfl, rfl, rfl, trivial⟩ ⟨_, hK2, rfl, h⟩
   replace hc4 := zb hc4
   replace hF := bifF hc4 hF
   refine qC hc4 (t := 24) rfl (zn5 rfl (zn1 rfl (zp1 rfl (qb ?_))))
   obtain rfl := qi hF
   exact qz [(1, _), (5, _), (6, _), (7, _), (31, _)] ⟨rfl, rfl, rfl, rfl, rfl, trivial⟩ ⟨_, hK2, rfl, h⟩
  rintro e2 w7 ⟨b1, hF, rfl, h⟩
  subst hKF1
  refine qu rfl hF ?_ ?_ <;> intro hF
  ·refine qB (zp2 rfl (qas qc [.tmp 33] _ ([i1] : List Int) h rfl rfl rfl rfl rfl rfl rfl rfl rfl ⟨rfl, trivial⟩ rfl ?_))
   intro w5 p7 S4 h
   obtain ⟨x2, hx1, hF⟩ := qd hF
   obtain ⟨g1, hx1⟩ := qa2 hx1
   refine qdy qc 2 h rfl (h.sl 0 rfl).1 (h.sl 0 rfl).2 rfl rfl rfl rfl rfl rfl rfl rfl rfl g1 hx1 rfl ?_
   intro w6 p8 k6 S5 h
   refine zp1 rfl (zNER (zp3 rfl (qb ?_)))
   replace h := h.pick [1, 2] rfl
   exact qy m1 [(1, _), (5, _), (6, _), (7, _)] (Nat.lt_succ_self m1) ⟨rfl, rfl, rfl, rfl, trivial⟩ ⟨_, _, _, _, _, _, hF, rfl, h⟩
  exact zKER (zp3 rfl (qb (qy m1 [(1, _), (5, _), (6, _), (7, _)] (Nat.lt_succ_self m1) ⟨rfl, rfl, rfl, rfl, trivial⟩ ⟨_, _, _, _, _, _, hF, rfl, h⟩)))
 refine qH rfl ?_
 obtain rfl := qi hF; replace hF := hK1
 refine zSR (zp2 rfl (qb ?_))
 obtain rfl := qi hF
 exact qaf qc (ρ := (List Int)) [GoT.v (List Int) [.slice p6 x1.length k5]] h ⟨rfl, trivial⟩ (PV.done h (qan (qax 1 h rfl)))

def qcD (b : qw) : Nat → Int → Option (Flow Bool Int)
 | 0, _ => none
 | n + 1, i1 =>
  bif decide (i1 < (b.Wires.length : Int)) then
   (idx b.Wires i1).bind fun y1 =>
   (qeN n (⟨b.Design.Instances, b.Design.Nets, b.Design.Ports⟩ : qh) i1).bind fun r1 =>
   (qgO n y1 (r1.length : Int)).bind fun r2 =>
   bif (!r2) then
    some (.ret false)
   else
    qcD b n (W64 (i1 + 1))
  else
   some (.nxt i1)

def qgk (n : Nat) (b : qw) : Option Bool :=
 (
  (qeO n (⟨b.Library.Cells⟩ : qn) (⟨b.Design.Instances, b.Design.Nets, b.Design.Ports⟩ : qh)).bind fun r3 =>
  bif (!r3) then
   some true
  else
   some ((b.Wires.length : Int) != (b.Design.Nets.length : Int))).bind fun b1 =>
 bif b1 then
  some false
 else
  (qcD b n 0).bind fun o => match o with
  | .ret r => some r
  | .nxt _ =>
   some true

theorem qkA {n : Nat} {w : World} {b : qw} {cs1 : List Value} (ha1 : GoT.R w (old w) b cs1) {r : Bool} (hF : qgk n b = some r) : RetV Tryz.prog 33 [GoT.v qw cs1] w r := by
 obtain ⟨p1, k1, p2, k2, p3, k3, p4, k4, p5, k5, rfl, s1, s2, s3, s4, s5⟩ := qaw ha1
 refine qe Tryz.func33 rfl (m := 39) rfl rfl (fun h => ?_)
 rw [qgk] at hF
 refine zSR (qO h rfl rfl ?_)
 intro w1 bb1 h
 refine zp1 rfl (zNSS ?_)
 obtain ⟨KF1, hKF1, o2, hF, hK2⟩ := bindE hF
 refine qeA (fun e w' => ∃ (b1 : Bool), KF1 b1 = some r ∧ e = [(1, .pointer (some ⟨bb1, 0, none⟩)), (19, .bool b1)] ∧ SH w w' [Ch.box bb1 [.slice p1 b.Library.Cells.length k1, .slice p2 b.Design.Instances.length k2, .slice p3 b.Design.Nets.length k3, .slice p4 b.Design.Ports.length k4, .slice p5 b.Wires.length k5] 48]) ?_ ?_
 ·refine qB (zp1 rfl (zl 0 0 h rfl (zp1 rfl (zl 0 1 h rfl ?_))))
  obtain ⟨r3, hr4, hF⟩ := qd hF
  refine qt r3 h call67 (qhV (qcW (⟨b.Library.Cells⟩ : qn) (h.oldS s1)) (qaX (⟨b.Design.Instances, b.Design.Nets, b.Design.Ports⟩ : qh) (h.oldS s2) (h.oldS s3) (h.oldS s4)) hr4) rfl rfl rfl rfl ?_
  intro w6 h
  refine zp2 rfl ?_
  by_cases hc5 : (!r3) = true
  ·replace hF := bifT hc5 hF
   refine qD hc5 (t := 10) rfl (zn5 rfl (zn3 rfl (zp1 rfl (qb ?_))))
   obtain rfl := qi hF
   exact qz [(1, _), (19, _)] ⟨rfl, rfl, trivial⟩ ⟨_, hK2, rfl, h⟩
  replace hc5 := zb hc5
  replace hF := bifF hc5 hF
  refine qC hc5 (t := 10) rfl (qa rfl (zp1 rfl (qa rfl (zl 0 4 h rfl (qa rfl (zp1 rfl (qa rfl (zp1 rfl (qa rfl (zp1 rfl (qa rfl ?_)))))))))))
  refine zl 0 2 h rfl (qa rfl (zp1 rfl (qa rfl (zp2 rfl (qb ?_)))))
  obtain rfl := qi hF
  exact qz [(1, _), (19, _)] ⟨rfl, rfl, trivial⟩ ⟨_, hK2, rfl, h⟩
 rintro e2 w7 ⟨b1, hF, rfl, h⟩
 subst hKF1
 refine qu rfl hF ?_ ?_ <;> intro hF
 ·exact zSR (zp1 rfl (qb (qx qc h hF ⟨rfl, trivial⟩)))
 refine zKSSR (zp1 rfl (qb ?_))
 obtain ⟨o1, hF, hK1⟩ := qd hF
 refine qv (qR [(1, _), (3, _)] ⟨rfl, rfl, trivial⟩ ?_)
 refine qG (fun m e w' => ∃ (i1 : Int), qcD b m i1 = some o1 ∧ e = [(1, .pointer (some ⟨bb1, 0, none⟩)), (3, .int .i64 i1)] ∧ SH w w' [Ch.box bb1 [.slice p1 b.Library.Cells.length k1, .slice p2 b.Design.Instances.length k2, .slice p3 b.Design.Nets.length k3, .slice p4 b.Design.Ports.length k4, .slice p5 b.Wires.length k5] 48]) n ⟨_, hF, rfl, h⟩ ?_
 rintro m1 e1 w2 ⟨i1, hF, rfl, h⟩
 rcases m1 with _ | m1
 ·rw [qcD] at hF
  cases hF
 rw [qcD] at hF
 refine zSSR (zp2 rfl (zl 0 4 h rfl (zp2 rfl (qb ?_))))
 refine qu rfl hF ?_ ?_ <;> intro hF
 ·refine zKSB (qbg ?_)
  refine qfo [] (fun w' => SH w w' [Ch.box bb1 [.slice p1 b.Library.Cells.length k1, .slice p2 b.Design.Instances.length k2, .slice p3 b.Design.Nets.length k3, .slice p4 b.Design.Ports.length k4, .slice p5 b.Wires.length k5] 48]) rfl 12 rfl #[ff, ff, ff, ff, ff, ff, ff, ff, ff, ff, ff, ff] (by kernel_rfl) (fun w3 hb => ?_)
  replace h := h.ext hb
  clear hb
  refine qj 0 rfl #[tt, ff, ff, ff, ff, ff, ff, ff, ff, ff, ff, ff] (by kernel_rfl) (by kernel_rfl) (fun w' hw => v_p qc rfl w') (h.pick [0] rfl) rfl ?_
  refine qj 1 rfl #[tt, tt, ff, ff, ff, ff, ff, ff, ff, ff, ff, ff] (by kernel_rfl) (by kernel_rfl) (fun w' hw => qbx qc (hw.box 0 rfl) (j := 4) rfl rfl rfl) (h.pick [0] rfl) rfl ?_
  refine qj 2 rfl #[tt, tt, tt, ff, ff, ff, ff, ff, ff, ff, ff, ff] (by kernel_rfl) (by kernel_rfl) (fun w' hw => v_p qc rfl w') (h.pick [0] rfl) rfl ?_
  obtain ⟨y1, hy1, hF⟩ := qd hF
  have he1 := qf hy1
  obtain ⟨b2, o_1, q1, cs2, hp1, hq1, -, hr1, hc3⟩ := s5.at hy1
  obtain ⟨p6, k6, p7, k7, p8, k8, p9, k9, rfl, s6, s7, s8, s9⟩ := qbw hr1
  refine qj 3 rfl #[tt, tt, tt, tt, ff, ff, ff, ff, ff, ff, ff, ff] (by kernel_rfl) (by kernel_rfl) (fun w' hw => qfq qc hp1 hq1 ⟨he1.1, he1.2.1⟩ rfl rfl rfl rfl rfl rfl) (h.pick [0] rfl) rfl ?_
  refine qj 4 rfl #[tt, tt, tt, tt, tt, ff, ff, ff, ff, ff, ff, ff] (by kernel_rfl) (by kernel_rfl) (fun w' hw => qbx qc (hc3.below hw.below) (j := 0) rfl rfl rfl) (h.pick [0] rfl) rfl ?_
  refine qj 5 rfl #[tt, tt, tt, tt, tt, tt, ff, ff, ff, ff, ff, ff] (by kernel_rfl) (by kernel_rfl) (fun w' hw => v_p qc rfl w') (h.pick [0] rfl) rfl ?_
  refine qj 6 rfl #[tt, tt, tt, tt, tt, tt, tt, ff, ff, ff, ff, ff] (by kernel_rfl) (by kernel_rfl) (fun w' hw => qbx qc (hw.box 0 rfl) (j := 1) rfl rfl rfl) (h.pick [0] rfl) rfl ?_
  refine qj 7 rfl #[tt, tt, tt, tt, tt, tt, tt, tt, ff, ff, ff, ff] (by kernel_rfl) (by kernel_rfl) (fun w' hw => v_p qc rfl w') (h.pick [0] rfl) rfl ?_
  refine qaz 8 rfl #[tt, tt, tt, tt, tt, tt, tt, tt, tt, ff, ff, ff] (by kernel_rfl) (by kernel_rfl) ?_
  obtain ⟨r1, hr2, hF⟩ := qd hF
  refine qav r1 h call69 (qh3 (qaX (⟨b.Design.Instances, b.Design.Nets, b.Design.Ports⟩ : qh) (h.oldS s2) (h.oldS s3) (h.oldS s4)) hr2) rfl rfl rfl rfl ?_
  intro w4 S1 p10 k10 h
  refine qam (fun _ => (h.pick [1] rfl)) ?_
  refine qj 9 rfl #[tt, tt, tt, tt, tt, tt, tt, tt, tt, tt, ff, ff] (by kernel_rfl) (by kernel_rfl) (fun w' hw => v_p qc rfl w') (h.pick [1] rfl) rfl ?_
  refine qaz 10 rfl #[tt, tt, tt, tt, tt, tt, tt, tt, tt, tt, tt, ff] (by kernel_rfl) (by kernel_rfl) ?_
  obtain ⟨r2, hr3, hF⟩ := qd hF
  refine qt r2 h call68 (qk8 (qhe y1 (h.oldS s6) (h.oldS s7) (h.oldS s8) (h.oldS s9)) hr3) rfl rfl rfl rfl ?_
  intro w5 h
  refine qam (fun _ => (h.pick [1] rfl)) ?_
  refine qj 11 rfl #[tt, tt, tt, tt, tt, tt, tt, tt, tt, tt, tt, tt] (by kernel_rfl) (by kernel_rfl) (fun w' hw => v_p qc rfl w') (h.pick [1] rfl) rfl ?_
  refine qdD (by kernel_rfl) ?_
  refine qu rfl hF ?_ ?_ <;> intro hF
  ·refine zSR (zp1 rfl (qb ?_))
   obtain rfl := qi hF; replace hF := hK1
   exact qx qc h hF ⟨rfl, trivial⟩
  refine zKER (zp3 rfl (qb ?_))
  replace h := h.pick [1] rfl
  exact qy m1 [(1, _), (3, _)] (Nat.lt_succ_self m1) ⟨rfl, rfl, trivial⟩ ⟨_, hF, rfl, h⟩
 refine qH rfl ?_
 obtain rfl := qi hF; replace hF := hK1
 exact zSR (zp1 rfl (qb (qx qc h hF ⟨rfl, trivial⟩)))

def qba (_ : Nat) (x : Int) (low : Int) (high : Int) : Option Bool :=
 bif decide (x ≥ low) then
  some (decide (x ≤ high))
 else
  some false

theorem qa3 {n : Nat} {w : World} {x : Int} {low : Int} {high : Int}  {r : Bool} (hF : qba n x low high = some r) : RetV Tryz.prog 100 [.int .i64 x, .int .i64 low, .int .i64 high] w r := by
 refine qe Tryz.func100 rfl (m := 15) rfl rfl (fun h => ?_)
 rw [qba] at hF
 refine zSR (zp1 rfl (zNSR (zp4 rfl ?_)))
 by_cases hc1 : (decide (x ≥ low)) = true
 ·replace hF := bifT hc1 hF
  exact qD hc1 (t := 10) rfl (qa rfl (zp1 rfl (qa rfl (zp1 rfl (qa rfl (zp3 rfl (qb (qx qc h hF ⟨rfl, trivial⟩))))))))
 replace hc1 := zb hc1
 replace hF := bifF hc1 hF
 exact qC hc1 (t := 10) rfl (zn3 rfl (zp2 rfl (qb (qx qc h hF ⟨rfl, trivial⟩))))

def qge (_ : Nat) (s cutset : ByteArray) : Option ByteArray :=
 if s.size ≤ 9223372036854775807 ∧ cutset.size < 4294967281 ∧ cutset.data.toList.all (fun b => decide (b.toNat < 128)) = true then some ⟨(Lib.trimS s.data.toList cutset.data.toList).toArray⟩ else none

theorem qku {n : Nat} {w : World} {s cutset : ByteArray} {r : ByteArray} (hF : qge n s cutset = some r) : RetV Tryz.prog 180 [.string s, .string cutset] w r := by
 unfold qge at hF
 split at hF
 ·rename_i hh
  obtain rfl := qi hF
  refine (Tryz.strings_Trim_any s cutset w hh.1 hh.2.1 hh.2.2).mono ?_
  rintro e w' ⟨rfl, hB⟩
  exact ⟨_, rfl, hB, [.string _], rfl, qqf _ _⟩
 cases hF

def qeP (_ : Nat) (s : ByteArray) (c : (IntK .u8)) : Option Int :=
 some (Lib.indexByte s.data.toList c.val.toNat.toUInt8)

theorem qiF {n : Nat} {w : World} {s : ByteArray} {c : (IntK .u8)} {r : Int} (hF : qeP n s c = some r) : RetV Tryz.prog 181 [.string s, .int .u8 c.val] w r := by
 obtain rfl := qi hF
 refine (Tryz.strings_IndexByte s c.val w).mono ?_
 rintro e w' ⟨rfl, rfl⟩
 exact ⟨_, rfl, Below.refl _ _, [.int .i64 _], rfl, qoT _ _⟩

def qf1 (n : Nat) (s : ByteArray) : Option Bool :=
 (qba n (s.size : Int) 1 8).bind fun r1 =>
 bif r1 then
  (qge n s (⟨#[97, 98, 99, 100, 101, 102, 103, 104, 105, 106, 107, 108, 109, 110, 111, 112, 113, 114, 115, 116, 117, 118, 119, 120, 121, 122, 48, 49, 50, 51, 52, 53, 54, 55, 56, 57]⟩ : ByteArray)).bind fun r2 =>
  bif (r2.toList == (⟨#[]⟩ : ByteArray).toList) then
   (atS s 0).bind fun y1 =>
   (qeP n (⟨#[97, 98, 99, 100, 101, 102, 103, 104, 105, 106, 107, 108, 109, 110, 111, 112, 113, 114, 115, 116, 117, 118, 119, 120, 121, 122]⟩ : ByteArray) (⟨y1⟩ : IntK .u8)).bind fun r3 =>
   some (decide (r3 ≥ 0))
  else
   some false
 else
  some false

theorem qis {n : Nat} {w : World} {s : ByteArray}  {r : Bool} (hF : qf1 n s = some r) : RetV Tryz.prog 170 [.string s] w r := by
 refine qe Tryz.func170 rfl (m := 17) rfl rfl (fun h => ?_)
 rw [qf1] at hF
 refine zSR (zp1 rfl (zNSR (zp2 rfl ?_)))
 obtain ⟨r1, hr1, hF⟩ := qd hF
 refine qt r1 h call100 (qa3 hr1) rfl rfl rfl rfl ?_
 intro w1 h
 refine zp1 rfl ?_
 by_cases hc1 : r1 = true
 ·replace hF := bifT hc1 hF
  refine qD hc1 (t := 6) rfl (qa rfl (zp1 rfl (qa rfl ?_)))
  obtain ⟨r2, hr2, hF⟩ := qd hF
  refine qpQ r2 h call180 (qku hr2) rfl rfl rfl rfl ?_
  intro w2 h
  refine qa rfl (zp3 rfl ?_)
  by_cases hc2 : (r2.toList == (⟨#[]⟩ : ByteArray).toList) = true
  ·replace hF := bifT hc2 hF
   refine qD hc2 (t := 11) rfl (qa rfl (zp1 rfl (qa rfl ?_)))
   obtain ⟨y1, hx1, hF⟩ := qd hF
   have g1 := qiJ hx1
   refine r_v (qiu qc g1 rfl rfl rfl rfl) rfl (qa rfl ?_)
   obtain ⟨r3, hr3, hF⟩ := qd hF
   refine qW r3 h call181 (qiF hr3) rfl rfl rfl rfl ?_
   intro w3 h
   exact qa rfl (zp3 rfl (qb (qx qc h hF ⟨rfl, trivial⟩)))
  replace hc2 := zb hc2
  replace hF := bifF hc2 hF
  exact qC hc2 (t := 11) rfl (zn4 rfl (zp2 rfl (qb (qx qc h hF ⟨rfl, trivial⟩))))
 replace hc1 := zb hc1
 replace hF := bifF hc1 hF
 refine qC hc1 (t := 6) rfl (zn3 rfl (zp2 rfl (zn4 rfl (zp2 rfl ?_))))
 exact qb (qx qc h hF ⟨rfl, trivial⟩)

def qbi (_ : Nat) (list : (List qal)) : Option Int :=
 some (list.length : Int)

theorem qfR {n : Nat} {w : World} {list : (List qal)} {cs1 : List Value} (ha1 : GoT.R w (old w) list cs1) {r : Int} (hF : qbi n list = some r) : RetV Tryz.prog 142 [GoT.v (List qal) cs1] w r := by
 obtain ⟨p1, k1, rfl, s1⟩ := ha1
 refine qe Tryz.func142 rfl (m := 5) rfl rfl (fun h => ?_)
 rw [qbi] at hF
 exact zSR (zp1 rfl (zNSR (zp3 rfl (qb (qaS qc h hF ⟨rfl, trivial⟩)))))

def qa4 (s : (List ByteArray)) (v : ByteArray) : Nat → Int → Option (Flow Int Int)
 | 0, _ => none
 | n + 1, i1 =>
  bif decide (i1 < (s.length : Int)) then
   (idx s i1).bind fun y1 =>
   bif (v.toList == y1.toList) then
    some (.ret i1)
   else
    qa4 s v n (W64 (i1 + 1))
  else
   some (.nxt i1)

def qdp (n : Nat) (s : (List ByteArray)) (v : ByteArray) : Option Int :=
 (qa4 s v n 0).bind fun o => match o with
 | .ret r => some r
 | .nxt _ =>
  some (-1)

theorem qib {n : Nat} {w : World} {s : (List ByteArray)} {v : ByteArray} {cs1 : List Value} (ha1 : GoT.R w (old w) s cs1) {r : Int} (hF : qdp n s v = some r) : RetV Tryz.prog 185 [GoT.v (List ByteArray) cs1, .string v] w r := by
 obtain ⟨p1, k1, rfl, s1⟩ := ha1
 refine qe Tryz.func185 rfl (m := 19) rfl rfl (fun h => ?_)
 rw [qdp] at hF
 refine zSR (zp1 rfl (zNSSR (zp3 rfl (qb ?_))))
 obtain ⟨o1, hF, hK1⟩ := qd hF
 refine qv (qR [(0, _), (1, _), (7, _), (8, _)] ⟨rfl, rfl, rfl, rfl, trivial⟩ ?_)
 refine qG (fun m e w' => ∃ (i1 : Int), qa4 s v m i1 = some o1 ∧ e = [(0, .slice p1 s.length k1), (1, .string v), (7, .int .i64 (s.length : Int)), (8, .int .i64 i1)] ∧ SH w w' []) n ⟨_, hF, rfl, h⟩ ?_
 rintro m1 e1 w1 ⟨i1, hF, rfl, h⟩
 rcases m1 with _ | m1
 ·rw [qa4] at hF
  cases hF
 rw [qa4] at hF
 refine zSR (zp1 rfl (zNS ?_))
 refine qu rfl hF ?_ ?_ <;> intro hF
 ·refine zKSBSR (zp2 rfl (zNSR (zp2 rfl ?_)))
  refine zp1 rfl ?_
  obtain ⟨y1, hy1, hF⟩ := qd hF
  have he1 := qf hy1
  obtain ⟨b1, o_1, q1, cs2, hp1, hq1, -, hr1, hc2⟩ := s1.at hy1
  obtain rfl := hr1
  refine zxe hp1 hq1 he1 rfl (zc 0 (hc2.below h.below) rfl (zp1 rfl (qb ?_)))
  refine qu rfl hF ?_ ?_ <;> intro hF
  ·refine zSR (zp2 rfl (qb ?_))
   obtain rfl := qi hF; replace hF := hK1
   exact qaS qc h hF ⟨rfl, trivial⟩
  exact zKER (zp2 rfl (qb (qy m1 [(0, _), (1, _), (7, _), (8, _)] (Nat.lt_succ_self m1) ⟨rfl, rfl, rfl, rfl, trivial⟩ ⟨_, hF, rfl, h⟩)))
 refine qH rfl ?_
 obtain rfl := qi hF; replace hF := hK1
 exact zSR (zp1 rfl (qb (qaS qc h hF ⟨rfl, trivial⟩)))

def qcv (n : Nat) (s : (List ByteArray)) (v : ByteArray) : Option Bool :=
 (qdp n s v).bind fun r1 =>
 some (decide (r1 ≥ 0))

theorem qhC {n : Nat} {w : World} {s : (List ByteArray)} {v : ByteArray} {cs1 : List Value} (ha1 : GoT.R w (old w) s cs1) {r : Bool} (hF : qcv n s v = some r) : RetV Tryz.prog 174 [GoT.v (List ByteArray) cs1, .string v] w r := by
 obtain ⟨p1, k1, rfl, s1⟩ := ha1
 refine qe Tryz.func174 rfl (m := 9) rfl rfl (fun h => ?_)
 rw [qcv] at hF
 refine zSR (zp1 rfl (zNSR (zp2 rfl ?_)))
 obtain ⟨r1, hr1, hF⟩ := qd hF
 refine qW r1 h call185 (qib ⟨_, _, rfl, (h.oldS s1)⟩ hr1) rfl rfl rfl rfl ?_
 intro w1 h
 exact zp2 rfl (qb (qx qc h hF ⟨rfl, trivial⟩))

def qcm (list : (List ByteArray)) : Nat → Int → Option (Flow Bool Int)
 | 0, _ => none
 | n + 1, i1 =>
  bif decide (i1 < (list.length : Int)) then
   (idx list i1).bind fun y1 =>
   (qf1 n y1).bind fun r1 =>
   bif (!r1) then
    some (.ret false)
   else
    (subS list 0 i1).bind fun x1 =>
    (qcv n x1 y1).bind fun r2 =>
    bif r2 then
     some (.ret false)
    else
     qcm list n (W64 (i1 + 1))
  else
   some (.nxt i1)

def qcX (n : Nat) (list : (List ByteArray)) : Option Bool :=
 (qcm list n 0).bind fun o => match o with
 | .ret r => some r
 | .nxt _ =>
  some true

theorem qel {n : Nat} {w : World} {list : (List ByteArray)} {cs1 : List Value} (ha1 : GoT.R w (old w) list cs1) {r : Bool} (hF : qcX n list = some r) : RetV Tryz.prog 154 [GoT.v (List ByteArray) cs1] w r := by
 obtain ⟨p1, k1, rfl, s1⟩ := ha1
 refine qe Tryz.func154 rfl (m := 23) rfl rfl (fun h => ?_)
 rw [qcX] at hF
 refine zSR (zp1 rfl (zNSSR (zp3 rfl (qb ?_))))
 obtain ⟨o1, hF, hK1⟩ := qd hF
 refine qv (qR [(0, _), (5, _), (6, _), (7, _)] ⟨rfl, rfl, rfl, rfl, trivial⟩ ?_)
 refine qG (fun m e w' => ∃ (i1 : Int), qcm list m i1 = some o1 ∧ e = [(0, .slice p1 list.length k1), (5, .slice p1 list.length k1), (6, .int .i64 (list.length : Int)), (7, .int .i64 i1)] ∧ SH w w' []) n ⟨_, hF, rfl, h⟩ ?_
 rintro m1 e1 w1 ⟨i1, hF, rfl, h⟩
 rcases m1 with _ | m1
 ·rw [qcm] at hF
  cases hF
 rw [qcm] at hF
 refine zSR (zp1 rfl (zNS ?_))
 refine qu rfl hF ?_ ?_ <;> intro hF
 ·refine zKSBSR (zp1 rfl ?_)
  obtain ⟨y1, hy1, hF⟩ := qd hF
  have he1 := qf hy1
  obtain ⟨b1, o_1, q1, cs2, hp1, hq1, -, hr1, hc2⟩ := s1.at hy1
  obtain rfl := hr1
  refine zxe hp1 hq1 he1 rfl (zc 0 (hc2.below h.below) rfl (zp2 rfl (zNSR (zp1 rfl ?_))))
  obtain ⟨r1, hr2, hF⟩ := qd hF
  refine qt r1 h call170 (qis hr2) rfl rfl rfl rfl ?_
  intro w2 h
  refine zp2 rfl ?_
  by_cases hc3 : (!r1) = true
  ·replace hF := bifT hc3 hF
   refine qD hc3 (t := 15) rfl (zn5 rfl (zp1 rfl (qb (qeR rfl rfl (zSR (zp1 rfl ?_))))))
   refine qb ?_
   obtain rfl := qi hF; replace hF := hK1
   exact qx qc h hF ⟨rfl, trivial⟩
  replace hc3 := zb hc3
  replace hF := bifF hc3 hF
  refine qC hc3 (t := 15) rfl (qa rfl (zp1 rfl (qa rfl (zp1 rfl (qa rfl ?_)))))
  obtain ⟨x1, hx1, hF⟩ := qd hF
  obtain ⟨p2, k2, hp2, hk1, hl1, g1⟩ := qo1 (h.oldS s1) hx1
  refine r_v (qmA qc rfl rfl rfl (qpg g1 rfl) hp2 hk1 hl1 rfl rfl rfl rfl) rfl ?_
  have s2 := qoQ s1 hx1 hp2 hk1
  refine qa rfl (zp1 rfl (qa rfl ?_))
  obtain ⟨r2, hr3, hF⟩ := qd hF
  refine qt r2 h call174 (qhC ⟨_, _, rfl, (h.oldS s2)⟩ hr3) rfl rfl rfl rfl ?_
  intro w3 h
  refine zp1 rfl (qb ?_)
  refine qu rfl hF ?_ ?_ <;> intro hF
  ·refine zSR (zp1 rfl (qb ?_))
   obtain rfl := qi hF; replace hF := hK1
   exact qx qc h hF ⟨rfl, trivial⟩
  exact zKER (zp2 rfl (qb (qy m1 [(0, _), (5, _), (6, _), (7, _)] (Nat.lt_succ_self m1) ⟨rfl, rfl, rfl, rfl, trivial⟩ ⟨_, hF, rfl, h⟩)))
 refine qH rfl ?_
 obtain rfl := qi hF; replace hF := hK1
 exact zSR (zp1 rfl (qb (qx qc h hF ⟨rfl, trivial⟩)))

def qbI (list : (List qal)) : Nat → (List ByteArray) → Int → Option (Flow Bool ((List ByteArray) × Int))
 | 0, _, _ => none
 | n + 1, x1, i1 =>
  bif decide (i1 < (list.length : Int)) then
   (idx list i1).bind fun y1 =>
   (appS x1 ([y1.Name] : List ByteArray)).bind fun x2 =>
   bif (i1 == (W64 ((list.length : Int) - 1))) then
    bif (y1.Dir != 2) then
     some (.ret false)
    else
     bif (y1.Cap != 0) then
      some (.ret false)
     else
      bif y1.Clock then
       some (.ret false)
      else
       qbI list n x2 (W64 (i1 + 1))
   else
    bif (y1.Dir != 1) then
     some (.ret false)
    else
     (qba n y1.Cap 0 500).bind fun r1 =>
     bif (!r1) then
      some (.ret false)
     else
      qbI list n x2 (W64 (i1 + 1))
  else
   some (.nxt (x1, i1))

def qf7 (n : Nat) (list : (List qal)) : Option Bool :=
 (qbI list n ([] : List ByteArray) 0).bind fun o => match o with
 | .ret r => some r
 | .nxt (x1, _) =>
  (qbi n list).bind fun r2 =>
  (qba n r2 2 5).bind fun r3 =>
  bif r3 then
   (qcX n x1).bind fun r4 =>
   some r4
  else
   some false

theorem qko {n : Nat} {w : World} {list : (List qal)} {cs1 : List Value} (ha1 : GoT.R w (old w) list cs1) {r : Bool} (hF : qf7 n list = some r) : RetV Tryz.prog 171 [GoT.v (List qal) cs1] w r := by
 obtain ⟨p1, k1, rfl, s1⟩ := ha1
 refine qe Tryz.func171 rfl (m := 52) rfl rfl (fun h => ?_)
 rw [qf7] at hF
 refine zSR (zp1 rfl (zNSR (zp1 rfl (zNSSR (zp1 rfl ?_)))))
 refine zp2 rfl (qb ?_)
 replace h := h.nil (α := ByteArray)
 obtain ⟨o1, hF, hK1⟩ := qd hF
 refine qv (qR [(0, _), (3, _), (6, _), (7, _), (8, _)] ⟨rfl, rfl, rfl, rfl, rfl, trivial⟩ ?_)
 refine qG (fun m e w' => ∃ (S1 : Nat → Prop) (p2 : Option Addr) (ln1 : Nat) (k2 : Nat) (x1 : (List ByteArray)) (i1 : Int), qbI list m x1 i1 = some o1 ∧ e = [(0, .slice p1 list.length k1), (3, .slice p2 ln1 k2), (6, .slice p1 list.length k1), (7, .int .i64 (list.length : Int)), (8, .int .i64 i1)] ∧ SH w w' [Ch.own S1 (x1 : List ByteArray) [.slice p2 ln1 k2]]) n ⟨_, _, _, _, _, _, hF, rfl, h⟩ ?_
 rintro m1 e1 w1 ⟨S1, p2, ln1, k2, x1, i1, hF, rfl, h⟩
 obtain rfl := (h.sl 0 rfl).2
 rcases m1 with _ | m1
 ·rw [qbI] at hF
  cases hF
 rw [qbI] at hF
 refine zSR (zp1 rfl (zNS ?_))
 refine qu rfl hF ?_ ?_ <;> intro hF
 ·refine zKSBSR (zp1 rfl ?_)
  obtain ⟨y1, hy1, hF⟩ := qd hF
  have he1 := qf hy1
  obtain ⟨b1, o_1, q1, cs2, hp1, hq1, -, hr1, hc2⟩ := s1.at hy1
  obtain rfl := qbd hr1
  refine zxe hp1 hq1 he1 rfl (zc 0 (hc2.below h.below) rfl (qU qc h rfl rfl rfl ?_))
  intro w2 bb1 h
  refine zp1 rfl (zs 0 h rfl ?_)
  intro w3 h
  replace h : SH _ _ [Ch.box bb1 [.string y1.Name, .int .i64 y1.Dir, .int .i64 y1.Cap, .bool y1.Clock] 199, Ch.own S1 (x1 : List ByteArray) [.slice p2 x1.length k2]] := h
  refine zNSR (zp2 rfl (zl 0 0 h rfl (qas qc [.tmp 15] _ ([y1.Name] : List ByteArray) h rfl rfl rfl rfl rfl rfl rfl rfl rfl ⟨rfl, trivial⟩ rfl ?_)))
  intro w4 p3 S2 h
  obtain ⟨x2, hx1, hF⟩ := qd hF
  obtain ⟨g1, hx1⟩ := qa2 hx1
  refine qdy qc 2 h rfl (h.sl 0 rfl).1 (h.sl 0 rfl).2 rfl rfl rfl rfl rfl rfl rfl rfl rfl g1 hx1 rfl ?_
  intro w5 p4 k3 S3 h
  refine zp1 rfl (zNSR (zp5 rfl (qb ?_)))
  refine qu rfl hF ?_ ?_ <;> intro hF
  ·refine zSR (zp1 rfl (zl 1 1 h rfl (zp2 rfl ?_)))
   by_cases hc4 : (y1.Dir != 2) = true
   ·replace hF := bifT hc4 hF
    refine qD hc4 (t := 26) rfl (zn3 rfl (zp2 rfl (zn2 rfl (zp1 rfl (qb (qeR rfl rfl (qbg ?_)))))))
    refine qB (zp1 rfl (qb ?_))
    obtain rfl := qi hF; replace hF := hK1
    exact qx qc h hF ⟨rfl, trivial⟩
   replace hc4 := zb hc4
   replace hF := bifF hc4 hF
   refine qC hc4 (t := 26) rfl (qa rfl (zp1 rfl (qa rfl (zl 1 2 h rfl (qa rfl (zp3 rfl ?_))))))
   by_cases hc5 : (y1.Cap != 0) = true
   ·replace hF := bifT hc5 hF
    refine qD hc5 (t := 31) rfl (zn2 rfl (zp1 rfl (qb (qeR rfl rfl (zSR (zp1 rfl (qb ?_)))))))
    obtain rfl := qi hF; replace hF := hK1
    exact qx qc h hF ⟨rfl, trivial⟩
   replace hc5 := zb hc5
   replace hF := bifF hc5 hF
   refine qC hc5 (t := 31) rfl (qa rfl (zp1 rfl (qa rfl (zl 1 3 h rfl (zp1 rfl (qb ?_))))))
   refine qu rfl hF ?_ ?_ <;> intro hF
   ·refine zSR (zp1 rfl (qb ?_))
    obtain rfl := qi hF; replace hF := hK1
    exact qx qc h hF ⟨rfl, trivial⟩
   refine zKER (zp2 rfl (qb ?_))
   replace h := h.pick [2] rfl
   exact qy m1 [(0, _), (3, _), (6, _), (7, _), (8, _)] (Nat.lt_succ_self m1) ⟨rfl, rfl, rfl, rfl, rfl, trivial⟩ ⟨_, _, _, _, _, _, hF, rfl, h⟩
  refine zSR (zp1 rfl (zl 1 1 h rfl (zp2 rfl ?_)))
  by_cases hc7 : (y1.Dir != 1) = true
  ·replace hF := bifT hc7 hF
   refine qD hc7 (t := 38) rfl (zn4 rfl (zp1 rfl (qb (qeR rfl rfl (zSR (zp1 rfl (qb ?_)))))))
   obtain rfl := qi hF; replace hF := hK1
   exact qx qc h hF ⟨rfl, trivial⟩
  replace hc7 := zb hc7
  replace hF := bifF hc7 hF
  refine qC hc7 (t := 38) rfl (qa rfl (zp1 rfl (qa rfl (zl 1 2 h rfl (qa rfl ?_)))))
  obtain ⟨r1, hr2, hF⟩ := qd hF
  refine qt r1 h call100 (qa3 hr2) rfl rfl rfl rfl ?_
  intro w6 h
  refine qa rfl (zp2 rfl (qb ?_))
  refine qu rfl hF ?_ ?_ <;> intro hF
  ·refine zSR (zp1 rfl (qb ?_))
   obtain rfl := qi hF; replace hF := hK1
   exact qx qc h hF ⟨rfl, trivial⟩
  refine zKER (zp2 rfl (qb ?_))
  replace h := h.pick [2] rfl
  exact qy m1 [(0, _), (3, _), (6, _), (7, _), (8, _)] (Nat.lt_succ_self m1) ⟨rfl, rfl, rfl, rfl, rfl, trivial⟩ ⟨_, _, _, _, _, _, hF, rfl, h⟩
 refine qH rfl ?_
 obtain rfl := qi hF; replace hF := hK1
 refine zSR (zp1 rfl ?_)
 obtain ⟨r2, hr3, hF⟩ := qd hF
 refine qW r2 h call142 (qfR ⟨_, _, rfl, (h.oldS s1)⟩ hr3) rfl rfl rfl rfl ?_
 intro w7 h
 obtain ⟨r3, hr4, hF⟩ := qd hF
 refine qt r3 h call100 (qa3 hr4) rfl rfl rfl rfl ?_
 intro w8 h
 refine zp1 rfl ?_
 by_cases hc9 : r3 = true
 ·replace hF := bifT hc9 hF
  refine qD hc9 (t := 48) rfl (qa rfl (zp1 rfl (qa rfl ?_)))
  obtain ⟨r4, hr5, hF⟩ := qd hF
  refine qt r4 h call154 (qel (h.own 0 rfl) hr5) rfl rfl rfl rfl ?_
  intro w9 h
  exact zp2 rfl (qb (qx qc h hF ⟨rfl, trivial⟩))
 replace hc9 := zb hc9
 replace hF := bifF hc9 hF
 exact qC hc9 (t := 48) rfl (zn2 rfl (zp2 rfl (qb (qx qc h hF ⟨rfl, trivial⟩))))

def qbR (n : Nat) (c : qA) : Option Int :=
 (qbi n c.Pins).bind fun r1 =>
 some (W64 (r1 - 1))

theorem qd8 {n : Nat} {w : World} {c : qA} {cs1 : List Value} (ha1 : GoT.R w (old w) c cs1) {r : Int} (hF : qbR n c = some r) : RetV Tryz.prog 106 [GoT.v qA cs1] w r := by
 obtain ⟨p1, k1, p2, k2, p3, k3, rfl, s1, s2, s3⟩ := qS ha1
 refine qe Tryz.func106 rfl (m := 7) rfl rfl (fun h => ?_)
 rw [qbR] at hF
 refine zSR (qO h rfl rfl ?_)
 intro w1 bb1 h
 refine zp1 rfl (zNSR (zp1 rfl (zl 0 2 h rfl ?_)))
 obtain ⟨r1, hr1, hF⟩ := qd hF
 refine qW r1 h call142 (qfR ⟨_, _, rfl, (h.oldS s1)⟩ hr1) rfl rfl rfl rfl ?_
 intro w2 h
 exact zp2 rfl (qb (qaS qc h hF ⟨rfl, trivial⟩))

def qf9 (_ : Nat) (kind : Int) : Option Bool :=
 bif (kind == 4) then
  some true
 else
  some (kind == 5)

theorem qkt {n : Nat} {w : World} {kind : Int}  {r : Bool} (hF : qf9 n kind = some r) : RetV Tryz.prog 198 [.int .i64 kind] w r := by
 refine qe Tryz.func198 rfl (m := 9) rfl rfl (fun h => ?_)
 rw [qf9] at hF
 refine zSR (zp1 rfl (zNSR (zp3 rfl ?_)))
 by_cases hc1 : (kind == 4) = true
 ·replace hF := bifT hc1 hF
  exact qD hc1 (t := 5) rfl (zn2 rfl (zp2 rfl (qb (qx qc h hF ⟨rfl, trivial⟩))))
 replace hc1 := zb hc1
 replace hF := bifF hc1 hF
 exact qC hc1 (t := 5) rfl (qa rfl (zp1 rfl (qa rfl (zp3 rfl (qb (qx qc h hF ⟨rfl, trivial⟩))))))

def qei (n : Nat) (a_n : Int) (v0 : Int) (v1 : Int) : Option Bool :=
 (qba n a_n v0 v1).bind fun r1 =>
 some (!r1)

theorem qi6 {n : Nat} {w : World} {a_n : Int} {v0 : Int} {v1 : Int} {p1 : Option Addr} (ha1 : GoT.R w (old w) (some v0) [.pointer p1]) {p2 : Option Addr} (ha2 : GoT.R w (old w) (some v1) [.pointer p2]) {r : Bool} (hF : qei n a_n v0 v1 = some r) : RetV Tryz.prog 137 [.int .i64 a_n, .pointer p1, .pointer p2] w r := by
 obtain ⟨b1, o_1, cs1, rfl, -, hr1, hc1⟩ := PtR.get ha1 rfl
 obtain rfl := hr1
 obtain ⟨b2, o_2, cs2, rfl, -, hr2, hc2⟩ := PtR.get ha2 rfl
 obtain rfl := hr2
 refine qe Tryz.func137 rfl (m := 10) rfl rfl (fun h => ?_)
 rw [qei] at hF
 refine zSR (zp1 rfl (zNSR (zp1 rfl (zc 0 (hc1.below h.below) rfl (zc 0 (hc2.below h.below) rfl ?_)))))
 obtain ⟨r1, hr3, hF⟩ := qd hF
 refine qt r1 h call100 (qa3 hr3) rfl rfl rfl rfl ?_
 intro w1 h
 exact zp2 rfl (qb (qx qc h hF ⟨rfl, trivial⟩))

def qN (s : (List Int)) (f_0 : Int) (f_1 : Int) : Nat → Int → Option (Flow Int Int)
 | 0, _ => none
 | n + 1, i1 =>
  bif decide (i1 < (s.length : Int)) then
   (idx s i1).bind fun y1 =>
   (qei n y1 f_0 f_1).bind fun r1 =>
   bif r1 then
    some (.ret i1)
   else
    qN s f_0 f_1 n (W64 (i1 + 1))
  else
   some (.nxt i1)

def qat (n : Nat) (s : (List Int)) (f_0 : Int) (f_1 : Int) : Option Int :=
 (qN s f_0 f_1 n 0).bind fun o => match o with
 | .ret r => some r
 | .nxt _ =>
  some (-1)

theorem qep {n : Nat} {w : World} {s : (List Int)} {f_0 : Int} {f_1 : Int} {cs1 : List Value} (ha1 : GoT.R w (old w) s cs1) {p2 : Option Addr} (ha2 : GoT.R w (old w) (some f_0) [.pointer p2]) {p3 : Option Addr} (ha3 : GoT.R w (old w) (some f_1) [.pointer p3]) {r : Int} (hF : qat n s f_0 f_1 = some r) : RetV Tryz.prog 159 [GoT.v (List Int) cs1, .func (.func 137) #[] #[.pointer p2, .pointer p3]] w r := by
 obtain ⟨p1, k1, rfl, s1⟩ := ha1
 obtain ⟨b1, o_1, cs2, rfl, -, hr1, hc1⟩ := PtR.get ha2 rfl
 obtain rfl := hr1
 obtain ⟨b2, o_2, cs3, rfl, -, hr2, hc2⟩ := PtR.get ha3 rfl
 obtain rfl := hr2
 refine qe Tryz.func159 rfl (m := 19) rfl rfl (fun h => ?_)
 rw [qat] at hF
 refine zSR (zp1 rfl (zNSSR (zp3 rfl (qb ?_))))
 obtain ⟨o1, hF, hK1⟩ := qd hF
 refine qv (qR [(0, _), (1, _), (7, _), (8, _)] ⟨rfl, rfl, rfl, rfl, trivial⟩ ?_)
 refine qG (fun m e w' => ∃ (i1 : Int), qN s f_0 f_1 m i1 = some o1 ∧ e = [(0, .slice p1 s.length k1), (1, .func (.func 137) #[] #[.pointer (some ⟨b1, o_1, none⟩), .pointer (some ⟨b2, o_2, none⟩)]), (7, .int .i64 (s.length : Int)), (8, .int .i64 i1)] ∧ SH w w' []) n ⟨_, hF, rfl, h⟩ ?_
 rintro m1 e1 w1 ⟨i1, hF, rfl, h⟩
 rcases m1 with _ | m1
 ·rw [qN] at hF
  cases hF
 rw [qN] at hF
 refine zSR (zp1 rfl (zNS ?_))
 refine qu rfl hF ?_ ?_ <;> intro hF
 ·refine zKSBSR (zp2 rfl (zNSR (zp2 rfl ?_)))
  refine zp1 rfl ?_
  obtain ⟨y1, hy1, hF⟩ := qd hF
  have he1 := qf hy1
  obtain ⟨b3, o_3, q1, cs4, hp1, hq1, -, hr3, hc4⟩ := s1.at hy1
  obtain rfl := hr3
  refine zxe hp1 hq1 he1 rfl (zc 0 (hc4.below h.below) rfl ?_)
  obtain ⟨r1, hr4, hF⟩ := qd hF
  refine qt r1 h call137 (qi6 (h.old ha2) (h.old ha3) hr4) rfl rfl rfl rfl ?_
  intro w2 h
  refine qb ?_
  refine qu rfl hF ?_ ?_ <;> intro hF
  ·refine zSR (zp2 rfl (qb ?_))
   obtain rfl := qi hF; replace hF := hK1
   exact qaS qc h hF ⟨rfl, trivial⟩
  exact zKER (zp2 rfl (qb (qy m1 [(0, _), (1, _), (7, _), (8, _)] (Nat.lt_succ_self m1) ⟨rfl, rfl, rfl, rfl, trivial⟩ ⟨_, hF, rfl, h⟩)))
 refine qH rfl ?_
 obtain rfl := qi hF; replace hF := hK1
 exact zSR (zp1 rfl (qb (qaS qc h hF ⟨rfl, trivial⟩)))

def qaI (n : Nat) (s : (List Int)) (f_0 : Int) (f_1 : Int) : Option Bool :=
 (qat n s f_0 f_1).bind fun r1 =>
 some (decide (r1 ≥ 0))

theorem qd7 {n : Nat} {w : World} {s : (List Int)} {f_0 : Int} {f_1 : Int} {cs1 : List Value} (ha1 : GoT.R w (old w) s cs1) {p2 : Option Addr} (ha2 : GoT.R w (old w) (some f_0) [.pointer p2]) {p3 : Option Addr} (ha3 : GoT.R w (old w) (some f_1) [.pointer p3]) {r : Bool} (hF : qaI n s f_0 f_1 = some r) : RetV Tryz.prog 136 [GoT.v (List Int) cs1, .func (.func 137) #[] #[.pointer p2, .pointer p3]] w r := by
 obtain ⟨p1, k1, rfl, s1⟩ := ha1
 obtain ⟨b1, o_1, cs2, rfl, -, hr1, hc1⟩ := PtR.get ha2 rfl
 obtain rfl := hr1
 obtain ⟨b2, o_2, cs3, rfl, -, hr2, hc2⟩ := PtR.get ha3 rfl
 obtain rfl := hr2
 refine qe Tryz.func136 rfl (m := 9) rfl rfl (fun h => ?_)
 rw [qaI] at hF
 refine zSR (zp1 rfl (zNSR (zp2 rfl ?_)))
 obtain ⟨r1, hr3, hF⟩ := qd hF
 refine qW r1 h call159 (qep ⟨_, _, rfl, (h.oldS s1)⟩ (h.old ha2) (h.old ha3) hr3) rfl rfl rfl rfl ?_
 intro w1 h
 exact zp2 rfl (qb (qx qc h hF ⟨rfl, trivial⟩))

def qb3 (n : Nat) (list : (List Int)) (low : Int) (high : Int) : Option Bool :=
 (qaI n list low high).bind fun r1 =>
 some (!r1)

theorem qdd {n : Nat} {w : World} {list : (List Int)} {low : Int} {high : Int} {cs1 : List Value} (ha1 : GoT.R w (old w) list cs1) {r : Bool} (hF : qb3 n list low high = some r) : RetV Tryz.prog 82 [GoT.v (List Int) cs1, .int .i64 low, .int .i64 high] w r := by
 obtain ⟨p1, k1, rfl, s1⟩ := ha1
 refine qe Tryz.func82 rfl (m := 11) rfl rfl (fun h => ?_)
 rw [qb3] at hF
 refine zSR (qO h rfl rfl ?_)
 intro w1 bb1 h
 refine qO h rfl rfl ?_
 intro w2 bb2 h
 refine zp1 rfl (zNSR (zp2 rfl ?_))
 obtain ⟨r1, hr1, hF⟩ := qd hF
 refine qt r1 h call136 (qd7 ⟨_, _, rfl, (h.oldS s1)⟩ (qhr (x := low) 1 h rfl rfl) (qhr (x := high) 0 h rfl rfl) hr1) rfl rfl rfl rfl ?_
 intro w3 h
 exact zp2 rfl (qb (qx qc h hF ⟨rfl, trivial⟩))

def qa5 (_ : Nat) (list : (List Int)) : Option Int :=
 some (list.length : Int)

theorem qcd {n : Nat} {w : World} {list : (List Int)} {cs1 : List Value} (ha1 : GoT.R w (old w) list cs1) {r : Int} (hF : qa5 n list = some r) : RetV Tryz.prog 79 [GoT.v (List Int) cs1] w r := by
 obtain ⟨p1, k1, rfl, s1⟩ := ha1
 refine qe Tryz.func79 rfl (m := 5) rfl rfl (fun h => ?_)
 rw [qa5] at hF
 exact zSR (zp1 rfl (zNSR (zp3 rfl (qb (qaS qc h hF ⟨rfl, trivial⟩)))))

def qaO (list : (List Int)) : Nat → Int → Option (Flow Bool Int)
 | 0, _ => none
 | n + 1, i1 =>
  bif decide (i1 < (list.length : Int)) then
   (idx list (W64 (i1 - 1))).bind fun y1 =>
   (idx list i1).bind fun y2 =>
   bif decide (y1 ≥ y2) then
    some (.ret false)
   else
    qaO list n (W64 (i1 + 1))
  else
   some (.nxt i1)

def qdY (n : Nat) (list : (List Int)) : Option Bool :=
 (qaO list n 1).bind fun o => match o with
 | .ret r => some r
 | .nxt _ =>
  some true

theorem qiS {n : Nat} {w : World} {list : (List Int)} {cs1 : List Value} (ha1 : GoT.R w (old w) list cs1) {r : Bool} (hF : qdY n list = some r) : RetV Tryz.prog 85 [GoT.v (List Int) cs1] w r := by
 obtain ⟨p1, k1, rfl, s1⟩ := ha1
 refine qe Tryz.func85 rfl (m := 20) rfl rfl (fun h => ?_)
 rw [qdY] at hF
 refine zSR (zp1 rfl (zNSSR (zp1 rfl (qb ?_))))
 obtain ⟨o1, hF, hK1⟩ := qd hF
 refine qv (qR [(0, _), (3, _)] ⟨rfl, rfl, trivial⟩ ?_)
 refine qG (fun m e w' => ∃ (i1 : Int), qaO list m i1 = some o1 ∧ e = [(0, .slice p1 list.length k1), (3, .int .i64 i1)] ∧ SH w w' []) n ⟨_, hF, rfl, h⟩ ?_
 rintro m1 e1 w1 ⟨i1, hF, rfl, h⟩
 rcases m1 with _ | m1
 ·rw [qaO] at hF
  cases hF
 rw [qaO] at hF
 refine zSSR (zp4 rfl (qb ?_))
 refine qu rfl hF ?_ ?_ <;> intro hF
 ·refine zKSB (qbg ?_)
  refine qcQ rfl (by kernel_rfl) ?_
  refine zd3 rfl ?_
  obtain ⟨y1, hy1, hF⟩ := qd hF
  have he1 := qf hy1
  obtain ⟨b1, o_1, q1, cs2, hp1, hq1, -, hr1, hc2⟩ := s1.at hy1
  obtain rfl := hr1
  refine zdxe hp1 hq1 he1 rfl ?_
  refine zdc 0 (hc2.below h.below) rfl ?_
  refine zd2 rfl ?_
  obtain ⟨y2, hy2, hF⟩ := qd hF
  have he2 := qf hy2
  obtain ⟨b2, o_2, q2, cs3, hp2, hq2, -, hr2, hc3⟩ := s1.at hy2
  obtain rfl := hr2
  refine zdxe hp2 hq2 he2 rfl ?_
  refine zdc 0 (hc3.below h.below) rfl ?_
  refine zd1 rfl ?_
  refine qbj (fun w2 hb => ?_)
  replace h := h.ext hb
  clear hb
  refine qu rfl hF ?_ ?_ <;> intro hF
  ·refine zSR (zp1 rfl (qb ?_))
   obtain rfl := qi hF; replace hF := hK1
   exact qx qc h hF ⟨rfl, trivial⟩
  exact zKER (zp3 rfl (qb (qy m1 [(0, _), (3, _)] (Nat.lt_succ_self m1) ⟨rfl, rfl, trivial⟩ ⟨_, hF, rfl, h⟩)))
 refine qH rfl ?_
 obtain rfl := qi hF; replace hF := hK1
 exact zSR (zp1 rfl (qb (qx qc h hF ⟨rfl, trivial⟩)))

def qfV (n : Nat) (list : (List Int)) : Option Bool :=
 (qa5 n list).bind fun r1 =>
 (qba n r1 1 4).bind fun r2 =>
 bif r2 then
  (qb3 n list 0 100000).bind fun r3 =>
  bif r3 then
   (qdY n list).bind fun r4 =>
   some r4
  else
   some false
 else
  some false

theorem qix {n : Nat} {w : World} {list : (List Int)} {cs1 : List Value} (ha1 : GoT.R w (old w) list cs1) {r : Bool} (hF : qfV n list = some r) : RetV Tryz.prog 221 [GoT.v (List Int) cs1] w r := by
 obtain ⟨p1, k1, rfl, s1⟩ := ha1
 refine qe Tryz.func221 rfl (m := 14) rfl rfl (fun h => ?_)
 rw [qfV] at hF
 refine zSR (zp1 rfl (zNSR (zp1 rfl ?_)))
 obtain ⟨r1, hr1, hF⟩ := qd hF
 refine qW r1 h call79 (qcd ⟨_, _, rfl, (h.oldS s1)⟩ hr1) rfl rfl rfl rfl ?_
 intro w1 h
 obtain ⟨r2, hr2, hF⟩ := qd hF
 refine qt r2 h call100 (qa3 hr2) rfl rfl rfl rfl ?_
 intro w2 h
 refine zp1 rfl ?_
 by_cases hc1 : r2 = true
 ·replace hF := bifT hc1 hF
  refine qD hc1 (t := 6) rfl (qa rfl (zp1 rfl (qa rfl ?_)))
  obtain ⟨r3, hr3, hF⟩ := qd hF
  refine qt r3 h call82 (qdd ⟨_, _, rfl, (h.oldS s1)⟩ hr3) rfl rfl rfl rfl ?_
  intro w3 h
  refine zp2 rfl ?_
  by_cases hc2 : r3 = true
  ·replace hF := bifT hc2 hF
   refine qD hc2 (t := 10) rfl (qa rfl (zp1 rfl (qa rfl ?_)))
   obtain ⟨r4, hr4, hF⟩ := qd hF
   refine qt r4 h call85 (qiS ⟨_, _, rfl, (h.oldS s1)⟩ hr4) rfl rfl rfl rfl ?_
   intro w4 h
   exact zp2 rfl (qb (qx qc h hF ⟨rfl, trivial⟩))
  replace hc2 := zb hc2
  replace hF := bifF hc2 hF
  exact qC hc2 (t := 10) rfl (zn2 rfl (zp2 rfl (qb (qx qc h hF ⟨rfl, trivial⟩))))
 replace hc1 := zb hc1
 replace hF := bifF hc1 hF
 exact qC hc1 (t := 6) rfl (zn2 rfl (zp2 rfl (zn2 rfl (zp2 rfl (qb (qx qc h hF ⟨rfl, trivial⟩))))))

end Go.Fw


namespace Go.Fw
open Go Go.Proofs
open Go.RowKit (Below)
set_option maxRecDepth 100000
def qgp (n : Nat) (t : qE) : Option Bool :=
 (qfV n t.Slews).bind fun r1 =>
 bif r1 then
  (qfV n t.Loads).bind fun r2 =>
  bif r2 then
   bif ((t.Values.length : Int) == (W64 ((t.Slews.length : Int) * (t.Loads.length : Int)))) then
    (qb3 n t.Values (-1000000) 1000000).bind fun r3 =>
    some r3
   else
    some false
  else
   some false
 else
  some false

theorem qks {n : Nat} {w : World} {t : qE} {cs1 : List Value} (ha1 : GoT.R w (old w) t cs1) {r : Bool} (hF : qgp n t = some r) : RetV Tryz.prog 212 [GoT.v qE cs1] w r := by
 obtain ⟨p1, k1, p2, k2, p3, k3, rfl, s1, s2, s3⟩ := qbr ha1
 refine qe Tryz.func212 rfl (m := 29) rfl rfl (fun h => ?_)
 rw [qgp] at hF
 refine zSR (qO h rfl rfl ?_)
 intro w1 bb1 h
 refine zp1 rfl (zNSR (zp1 rfl (zl 0 0 h rfl ?_)))
 obtain ⟨r1, hr1, hF⟩ := qd hF
 refine qt r1 h call221 (qix ⟨_, _, rfl, (h.oldS s1)⟩ hr1) rfl rfl rfl rfl ?_
 intro w2 h
 refine zp1 rfl ?_
 by_cases hc1 : r1 = true
 ·replace hF := bifT hc1 hF
  refine qD hc1 (t := 6) rfl (qa rfl (zp1 rfl (qa rfl (zl 0 1 h rfl (qa rfl ?_)))))
  obtain ⟨r2, hr2, hF⟩ := qd hF
  refine qt r2 h call221 (qix ⟨_, _, rfl, (h.oldS s2)⟩ hr2) rfl rfl rfl rfl ?_
  intro w3 h
  refine zp2 rfl ?_
  by_cases hc2 : r2 = true
  ·replace hF := bifT hc2 hF
   refine qD hc2 (t := 11) rfl (qa rfl (zp1 rfl (qa rfl (zl 0 2 h rfl (qa rfl (zp1 rfl (qa rfl (zp1 rfl (qa rfl (zl 0 0 h rfl (qa rfl ?_)))))))))))
   refine zp1 rfl (qa rfl (zp1 rfl (qa rfl (zl 0 1 h rfl (qa rfl (zp1 rfl (qa rfl (zp1 rfl (qa rfl (zp2 rfl ?_))))))))))
   refine zp1 rfl ?_
   by_cases hc3 : ((t.Values.length : Int) == (W64 ((t.Slews.length : Int) * (t.Loads.length : Int)))) = true
   ·replace hF := bifT hc3 hF
    refine qD hc3 (t := 24) rfl (qa rfl (zp1 rfl (qa rfl (zl 0 2 h rfl (qa rfl ?_)))))
    obtain ⟨r3, hr3, hF⟩ := qd hF
    refine qt r3 h call82 (qdd ⟨_, _, rfl, (h.oldS s3)⟩ hr3) rfl rfl rfl rfl ?_
    intro w4 h
    exact zp2 rfl (qb (qx qc h hF ⟨rfl, trivial⟩))
   replace hc3 := zb hc3
   replace hF := bifF hc3 hF
   exact qC hc3 (t := 24) rfl (zn3 rfl (zp2 rfl (qb (qx qc h hF ⟨rfl, trivial⟩))))
  replace hc2 := zb hc2
  replace hF := bifF hc2 hF
  refine qC hc2 (t := 11) rfl (zn5 rfl (zn5 rfl (zn1 rfl ?_)))
  exact zp2 rfl (zn3 rfl (zp2 rfl (qb (qx qc h hF ⟨rfl, trivial⟩))))
 replace hc1 := zb hc1
 replace hF := bifF hc1 hF
 refine qC hc1 (t := 6) rfl (zn3 rfl (zp2 rfl (zn5 rfl (zn1 rfl ?_))))
 refine zn5 rfl (zp2 rfl (zn3 rfl (zp2 rfl ?_)))
 exact qb (qx qc h hF ⟨rfl, trivial⟩)

def qbt (x : (List Int)) : Nat → Int → Int → Option (Int × Int)
 | 0, _, _ => none
 | n + 1, i1, i2 =>
  bif decide (i2 < (x.length : Int)) then
   (idx x i2).bind fun y2 =>
   qbt x n (if y2 < i1 then y2 else i1) (W64 (i2 + 1))
  else
   some (i1, i2)

def qek (n : Nat) (x : (List Int)) : Option Int :=
 (
  bif decide ((x.length : Int) < 1) then
   none
  else
   some ()).bind fun _ =>
 (idx x 0).bind fun y1 =>
 (qbt x n y1 1).bind fun o => match o with
 | (i1, _) =>
  some i1

theorem qi8 {n : Nat} {w : World} {x : (List Int)} {cs1 : List Value} (ha1 : GoT.R w (old w) x cs1) {r : Int} (hF : qek n x = some r) : RetV Tryz.prog 213 [GoT.v (List Int) cs1] w r := by
 obtain ⟨p1, k1, rfl, s1⟩ := ha1
 refine qe Tryz.func213 rfl (m := 25) rfl rfl (fun h => ?_)
 rw [qek] at hF
 refine zSR (zp1 rfl (zNSSR (zp3 rfl (qb ?_))))
 obtain ⟨KF1, hKF1, o2, hF, hK2⟩ := bindE hF
 refine qeA (fun e w' => KF1 () = some r ∧ e = [(0, .slice p1 x.length k1)] ∧ SH w w' []) ?_ ?_
 ·refine qu rfl hF ?_ ?_ <;> intro hF
  ·refine qB ?_
   cases hF
  refine qew ?_
  obtain rfl := qi hF
  exact qz [(0, _)] ⟨rfl, trivial⟩ ⟨hK2, rfl, h⟩
 rintro e2 w2 ⟨hF, rfl, h⟩
 subst hKF1
 refine zSR (zp1 rfl ?_)
 obtain ⟨y1, hy1, hF⟩ := qd hF
 have he1 := qf hy1
 obtain ⟨b1, o_1, q1, cs2, hp1, hq1, -, hr1, hc1⟩ := s1.at hy1
 obtain rfl := hr1
 refine zxe hp1 hq1 he1 rfl (zc 0 (hc1.below h.below) rfl (zp1 rfl (zNSSR (zp1 rfl (qb ?_)))))
 obtain ⟨o1, hF, hK1⟩ := qd hF
 refine qv (qR [(0, _), (3, _), (4, _)] ⟨rfl, rfl, rfl, trivial⟩ ?_)
 refine qG (fun m e w' => ∃ (i1 : Int) (i2 : Int), qbt x m i1 i2 = some o1 ∧ e = [(0, .slice p1 x.length k1), (3, .int .i64 i1), (4, .int .i64 i2)] ∧ SH w w' []) n ⟨_, _, hF, rfl, h⟩ ?_
 rintro m1 e1 w1 ⟨i1, i2, hF, rfl, h⟩
 rcases m1 with _ | m1
 ·rw [qbt] at hF
  cases hF
 rw [qbt] at hF
 refine zSSR (zp4 rfl (qb ?_))
 refine qu rfl hF ?_ ?_ <;> intro hF
 ·refine zKSBR (zp3 rfl ?_)
  obtain ⟨y2, hy2, hF⟩ := qd hF
  have he2 := qf hy2
  obtain ⟨b2, o_2, q2, cs3, hp2, hq2, -, hr2, hc3⟩ := s1.at hy2
  obtain rfl := hr2
  exact zxe hp2 hq2 he2 rfl (zc 0 (hc3.below h.below) rfl (zp2 rfl (zNER (zp3 rfl (qb (qy m1 [(0, _), (3, _), (4, _)] (Nat.lt_succ_self m1) ⟨rfl, rfl, rfl, trivial⟩ ⟨_, _, hF, rfl, h⟩))))))
 refine qH rfl ?_
 obtain rfl := qi hF; replace hF := hK1
 exact zSR (zp2 rfl (qb (qaS qc h hF ⟨rfl, trivial⟩)))

def qef (n : Nat) (t : qE) (v0 : Bool) : Option Bool :=
 (qgp n t).bind fun r1 =>
 bif (!r1) then
  some true
 else
  bif v0 then
   (qek n t.Values).bind fun r2 =>
   some (decide (r2 < 0))
  else
   some false

theorem qi2 {n : Nat} {w : World} {t : qE} {v0 : Bool} {cs1 : List Value} (ha1 : GoT.R w (old w) t cs1) {p4 : Option Addr} (ha2 : GoT.R w (old w) (some v0) [.pointer p4]) {r : Bool} (hF : qef n t v0 = some r) : RetV Tryz.prog 211 [GoT.v qE cs1, .pointer p4] w r := by
 obtain ⟨p1, k1, p2, k2, p3, k3, rfl, s1, s2, s3⟩ := qbr ha1
 obtain ⟨b1, o_1, cs2, rfl, -, hr1, hc1⟩ := PtR.get ha2 rfl
 obtain rfl := hr1
 refine qe Tryz.func211 rfl (m := 16) rfl rfl (fun h => ?_)
 rw [qef] at hF
 refine zSR (qO h rfl rfl ?_)
 intro w1 bb1 h
 refine zp1 rfl (zNSR (zl 0 0 h rfl ?_))
 obtain ⟨r1, hr2, hF⟩ := qd hF
 refine qt r1 h call212 (qks (h.old ha1) hr2) rfl rfl rfl rfl ?_
 intro w2 h
 refine zp2 rfl ?_
 by_cases hc2 : (!r1) = true
 ·replace hF := bifT hc2 hF
  exact qD hc2 (t := 7) rfl (zn5 rfl (zn2 rfl (zp2 rfl (qb (qx qc h hF ⟨rfl, trivial⟩)))))
 replace hc2 := zb hc2
 replace hF := bifF hc2 hF
 refine qC hc2 (t := 7) rfl (qa rfl (zc 0 (hc1.below h.below) rfl (qa rfl (zp1 rfl ?_))))
 by_cases hc3 : v0 = true
 ·replace hF := bifT hc3 hF
  refine qD hc3 (t := 9) rfl (qa rfl (zp1 rfl (qa rfl (zl 0 2 h rfl (qa rfl ?_)))))
  obtain ⟨r2, hr3, hF⟩ := qd hF
  refine qW r2 h call213 (qi8 ⟨_, _, rfl, (h.oldS s3)⟩ hr3) rfl rfl rfl rfl ?_
  intro w3 h
  exact qa rfl (zp1 rfl (qa rfl (zp3 rfl (qb (qx qc h hF ⟨rfl, trivial⟩)))))
 replace hc3 := zb hc3
 replace hF := bifF hc3 hF
 exact qC hc3 (t := 9) rfl (zn4 rfl (qa rfl (zp3 rfl (qb (qx qc h hF ⟨rfl, trivial⟩)))))

def qK (s : (List qE)) (f_0 : Bool) : Nat → Int → Option (Flow Int Int)
 | 0, _ => none
 | n + 1, i1 =>
  bif decide (i1 < (s.length : Int)) then
   (idx s i1).bind fun y1 =>
   (qef n y1 f_0).bind fun r1 =>
   bif r1 then
    some (.ret i1)
   else
    qK s f_0 n (W64 (i1 + 1))
  else
   some (.nxt i1)

def qad (n : Nat) (s : (List qE)) (f_0 : Bool) : Option Int :=
 (qK s f_0 n 0).bind fun o => match o with
 | .ret r => some r
 | .nxt _ =>
  some (-1)

theorem qd2 {n : Nat} {w : World} {s : (List qE)} {f_0 : Bool} {cs1 : List Value} (ha1 : GoT.R w (old w) s cs1) {p2 : Option Addr} (ha2 : GoT.R w (old w) (some f_0) [.pointer p2]) {r : Int} (hF : qad n s f_0 = some r) : RetV Tryz.prog 220 [GoT.v (List qE) cs1, .func (.func 211) #[] #[.pointer p2]] w r := by
 obtain ⟨p1, k1, rfl, s1⟩ := ha1
 obtain ⟨b1, o_1, cs2, rfl, -, hr1, hc1⟩ := PtR.get ha2 rfl
 obtain rfl := hr1
 refine qe Tryz.func220 rfl (m := 19) rfl rfl (fun h => ?_)
 rw [qad] at hF
 refine zSR (zp1 rfl (zNSSR (zp3 rfl (qb ?_))))
 obtain ⟨o1, hF, hK1⟩ := qd hF
 refine qv (qR [(0, _), (1, _), (7, _), (8, _)] ⟨rfl, rfl, rfl, rfl, trivial⟩ ?_)
 refine qG (fun m e w' => ∃ (i1 : Int), qK s f_0 m i1 = some o1 ∧ e = [(0, .slice p1 s.length k1), (1, .func (.func 211) #[] #[.pointer (some ⟨b1, o_1, none⟩)]), (7, .int .i64 (s.length : Int)), (8, .int .i64 i1)] ∧ SH w w' []) n ⟨_, hF, rfl, h⟩ ?_
 rintro m1 e1 w1 ⟨i1, hF, rfl, h⟩
 rcases m1 with _ | m1
 ·rw [qK] at hF
  cases hF
 rw [qK] at hF
 refine zSR (zp1 rfl (zNS ?_))
 refine qu rfl hF ?_ ?_ <;> intro hF
 ·refine zKSBSR (zp2 rfl (zNSR (zp2 rfl ?_)))
  refine zp1 rfl ?_
  obtain ⟨y1, hy1, hF⟩ := qd hF
  have he1 := qf hy1
  obtain ⟨b2, o_2, q1, cs3, hp1, hq1, -, hr2, hc3⟩ := s1.at hy1
  obtain ⟨p3, k2, p4, k3, p5, k4, rfl, s2, s3, s4⟩ := qbr hr2
  refine zxe hp1 hq1 he1 rfl (zc 0 (hc3.below h.below) rfl ?_)
  obtain ⟨r1, hr3, hF⟩ := qd hF
  refine qt r1 h call211 (qi2 (qgx y1 (h.oldS s2) (h.oldS s3) (h.oldS s4)) (h.old ha2) hr3) rfl rfl rfl rfl ?_
  intro w2 h
  refine qb ?_
  refine qu rfl hF ?_ ?_ <;> intro hF
  ·refine zSR (zp2 rfl (qb ?_))
   obtain rfl := qi hF; replace hF := hK1
   exact qaS qc h hF ⟨rfl, trivial⟩
  exact zKER (zp2 rfl (qb (qy m1 [(0, _), (1, _), (7, _), (8, _)] (Nat.lt_succ_self m1) ⟨rfl, rfl, rfl, rfl, trivial⟩ ⟨_, hF, rfl, h⟩)))
 refine qH rfl ?_
 obtain rfl := qi hF; replace hF := hK1
 exact zSR (zp1 rfl (qb (qaS qc h hF ⟨rfl, trivial⟩)))

def qaq (n : Nat) (s : (List qE)) (f_0 : Bool) : Option Bool :=
 (qad n s f_0).bind fun r1 =>
 some (decide (r1 ≥ 0))

theorem qdx {n : Nat} {w : World} {s : (List qE)} {f_0 : Bool} {cs1 : List Value} (ha1 : GoT.R w (old w) s cs1) {p2 : Option Addr} (ha2 : GoT.R w (old w) (some f_0) [.pointer p2]) {r : Bool} (hF : qaq n s f_0 = some r) : RetV Tryz.prog 210 [GoT.v (List qE) cs1, .func (.func 211) #[] #[.pointer p2]] w r := by
 obtain ⟨p1, k1, rfl, s1⟩ := ha1
 obtain ⟨b1, o_1, cs2, rfl, -, hr1, hc1⟩ := PtR.get ha2 rfl
 obtain rfl := hr1
 refine qe Tryz.func210 rfl (m := 9) rfl rfl (fun h => ?_)
 rw [qaq] at hF
 refine zSR (zp1 rfl (zNSR (zp2 rfl ?_)))
 obtain ⟨r1, hr2, hF⟩ := qd hF
 refine qW r1 h call220 (qd2 ⟨_, _, rfl, (h.oldS s1)⟩ (h.old ha2) hr2) rfl rfl rfl rfl ?_
 intro w1 h
 exact zp2 rfl (qb (qx qc h hF ⟨rfl, trivial⟩))

def qdB (n : Nat) (list : (List qE)) (positive : Bool) : Option Bool :=
 bif ((list.length : Int) == 2) then
  (qaq n list positive).bind fun r1 =>
  some (!r1)
 else
  some false

theorem qf8 {n : Nat} {w : World} {list : (List qE)} {positive : Bool} {cs1 : List Value} (ha1 : GoT.R w (old w) list cs1) {r : Bool} (hF : qdB n list positive = some r) : RetV Tryz.prog 199 [GoT.v (List qE) cs1, .bool positive] w r := by
 obtain ⟨p1, k1, rfl, s1⟩ := ha1
 refine qe Tryz.func199 rfl (m := 14) rfl rfl (fun h => ?_)
 rw [qdB] at hF
 refine zSR (qO h rfl rfl ?_)
 intro w1 bb1 h
 refine zp1 rfl (zNSR (zp4 rfl ?_))
 by_cases hc1 : ((list.length : Int) == 2) = true
 ·replace hF := bifT hc1 hF
  refine qD hc1 (t := 8) rfl (qa rfl (zp1 rfl (qa rfl (zp1 rfl (qa rfl ?_)))))
  obtain ⟨r1, hr1, hF⟩ := qd hF
  refine qt r1 h call210 (qdx ⟨_, _, rfl, (h.oldS s1)⟩ (qhr (x := positive) 0 h rfl rfl) hr1) rfl rfl rfl rfl ?_
  intro w2 h
  exact qa rfl (zp3 rfl (qb (qx qc h hF ⟨rfl, trivial⟩)))
 replace hc1 := zb hc1
 replace hF := bifF hc1 hF
 exact qC hc1 (t := 8) rfl (zn4 rfl (zp2 rfl (qb (qx qc h hF ⟨rfl, trivial⟩))))

def qeQ (_ : Nat) (p : qal) : Option Bool :=
 some p.Clock

theorem qiD {n : Nat} {w : World} {p : qal} {cs1 : List Value} (ha1 : GoT.R w (old w) p cs1) {r : Bool} (hF : qeQ n p = some r) : RetV Tryz.prog 215 [GoT.v qal cs1] w r := by
 obtain rfl := qbd ha1
 refine qe Tryz.func215 rfl (m := 5) rfl rfl (fun h => ?_)
 rw [qeQ] at hF
 refine zSR (qO h rfl rfl ?_)
 intro w1 bb1 h
 exact zp1 rfl (zNSR (zp1 rfl (zl 0 3 h rfl (zp1 rfl (qb (qx qc h hF ⟨rfl, trivial⟩))))))

def qL (s : (List qal)) : Nat → Int → Option (Flow Int Int)
 | 0, _ => none
 | n + 1, i1 =>
  bif decide (i1 < (s.length : Int)) then
   (idx s i1).bind fun y1 =>
   (qeQ n y1).bind fun r1 =>
   bif r1 then
    some (.ret i1)
   else
    qL s n (W64 (i1 + 1))
  else
   some (.nxt i1)

def qaG (n : Nat) (s : (List qal)) : Option Int :=
 (qL s n 0).bind fun o => match o with
 | .ret r => some r
 | .nxt _ =>
  some (-1)

theorem qd4 {n : Nat} {w : World} {s : (List qal)} {cs1 : List Value} (ha1 : GoT.R w (old w) s cs1) {r : Int} (hF : qaG n s = some r) : RetV Tryz.prog 214 [GoT.v (List qal) cs1, .func (.func 215) #[] #[]] w r := by
 obtain ⟨p1, k1, rfl, s1⟩ := ha1
 refine qe Tryz.func214 rfl (m := 19) rfl rfl (fun h => ?_)
 rw [qaG] at hF
 refine zSR (zp1 rfl (zNSSR (zp3 rfl (qb ?_))))
 obtain ⟨o1, hF, hK1⟩ := qd hF
 refine qv (qR [(0, _), (1, _), (7, _), (8, _)] ⟨rfl, rfl, rfl, rfl, trivial⟩ ?_)
 refine qG (fun m e w' => ∃ (i1 : Int), qL s m i1 = some o1 ∧ e = [(0, .slice p1 s.length k1), (1, .func (.func 215) #[] #[]), (7, .int .i64 (s.length : Int)), (8, .int .i64 i1)] ∧ SH w w' []) n ⟨_, hF, rfl, h⟩ ?_
 rintro m1 e1 w1 ⟨i1, hF, rfl, h⟩
 rcases m1 with _ | m1
 ·rw [qL] at hF
  cases hF
 rw [qL] at hF
 refine zSR (zp1 rfl (zNS ?_))
 refine qu rfl hF ?_ ?_ <;> intro hF
 ·refine zKSBSR (zp2 rfl (zNSR (zp2 rfl ?_)))
  refine zp1 rfl ?_
  obtain ⟨y1, hy1, hF⟩ := qd hF
  have he1 := qf hy1
  obtain ⟨b1, o_1, q1, cs2, hp1, hq1, -, hr1, hc2⟩ := s1.at hy1
  obtain rfl := qbd hr1
  refine zxe hp1 hq1 he1 rfl (zc 0 (hc2.below h.below) rfl ?_)
  obtain ⟨r1, hr2, hF⟩ := qd hF
  refine qt r1 h call215 (qiD (qgU y1) hr2) rfl rfl rfl rfl ?_
  intro w2 h
  refine qb ?_
  refine qu rfl hF ?_ ?_ <;> intro hF
  ·refine zSR (zp2 rfl (qb ?_))
   obtain rfl := qi hF; replace hF := hK1
   exact qaS qc h hF ⟨rfl, trivial⟩
  exact zKER (zp2 rfl (qb (qy m1 [(0, _), (1, _), (7, _), (8, _)] (Nat.lt_succ_self m1) ⟨rfl, rfl, rfl, rfl, trivial⟩ ⟨_, hF, rfl, h⟩)))
 refine qH rfl ?_
 obtain rfl := qi hF; replace hF := hK1
 exact zSR (zp1 rfl (qb (qaS qc h hF ⟨rfl, trivial⟩)))

def qeH (n : Nat) (c : qA) : Option Int :=
 (qaG n c.Pins).bind fun r1 =>
 some r1

theorem qjg {n : Nat} {w : World} {c : qA} {cs1 : List Value} (ha1 : GoT.R w (old w) c cs1) {r : Int} (hF : qeH n c = some r) : RetV Tryz.prog 200 [GoT.v qA cs1] w r := by
 obtain ⟨p1, k1, p2, k2, p3, k3, rfl, s1, s2, s3⟩ := qS ha1
 refine qe Tryz.func200 rfl (m := 6) rfl rfl (fun h => ?_)
 rw [qeH] at hF
 refine zSR (qO h rfl rfl ?_)
 intro w1 bb1 h
 refine zp1 rfl (zNSR (zp1 rfl (zl 0 2 h rfl ?_)))
 obtain ⟨r1, hr1, hF⟩ := qd hF
 refine qW r1 h call214 (qd4 ⟨_, _, rfl, (h.oldS s1)⟩ hr1) rfl rfl rfl rfl ?_
 intro w2 h
 exact zp1 rfl (qb (qaS qc h hF ⟨rfl, trivial⟩))

def qdR (n : Nat) (c : qA) (pin : Int) : Option Bool :=
 (qbR n c).bind fun r1 =>
 (qba n pin 0 (W64 (r1 - 1))).bind fun r2 =>
 some r2

theorem qgN {n : Nat} {w : World} {c : qA} {pin : Int} {cs1 : List Value} (ha1 : GoT.R w (old w) c cs1) {r : Bool} (hF : qdR n c pin = some r) : RetV Tryz.prog 201 [GoT.v qA cs1, .int .i64 pin] w r := by
 obtain ⟨p1, k1, p2, k2, p3, k3, rfl, s1, s2, s3⟩ := qS ha1
 refine qe Tryz.func201 rfl (m := 10) rfl rfl (fun h => ?_)
 rw [qdR] at hF
 refine zSR (qO h rfl rfl ?_)
 intro w1 bb1 h
 refine zp1 rfl (zNSR (zp1 rfl (zl 0 0 h rfl ?_)))
 obtain ⟨r1, hr1, hF⟩ := qd hF
 refine qW r1 h call106 (qd8 (h.old ha1) hr1) rfl rfl rfl rfl ?_
 intro w2 h
 refine zp1 rfl ?_
 obtain ⟨r2, hr2, hF⟩ := qd hF
 refine qt r2 h call100 (qa3 hr2) rfl rfl rfl rfl ?_
 intro w3 h
 exact zp1 rfl (qb (qx qc h hF ⟨rfl, trivial⟩))

def qeG (n : Nat) (a_0 : qA) (a_1 : qX) : Option Bool :=
 (qf9 n a_1.Kind).bind fun r1 =>
 bif r1 then
  (
   bif (a_1.Sense == 0) then
    bif ((a_1.Slew.length : Int) == 0) then
     (qdB n a_1.Delay false).bind fun r2 =>
     bif r2 then
      (qeH n a_0).bind fun r3 =>
      bif (a_1.From == r3) then
       bif decide (a_1.From ≥ 0) then
        (qdR n a_0 a_1.To).bind fun r4 =>
        bif r4 then
         some (a_1.To != a_1.From)
        else
         some false
       else
        some false
      else
       some false
     else
      some false
    else
     some false
   else
    some false).bind fun b1 =>
  some b1
 else
  (
   (qdB n a_1.Delay true).bind fun r6 =>
   bif (!r6) then
    some true
   else
    (qdB n a_1.Slew true).bind fun r7 =>
    bif (!r7) then
     some true
    else
     (qbR n a_0).bind fun r8 =>
     bif (a_1.To != r8) then
      some true
     else
      (qdR n a_0 a_1.From).bind fun r9 =>
      some (!r9)).bind fun b2 =>
  bif b2 then
   some false
  else
   bif (a_1.Kind == 1) then
    (idx a_0.Pins a_1.From).bind fun y1 =>
    bif (!y1.Clock) then
     (qba n a_1.Sense 1 3).bind fun r5 =>
     some r5
    else
     some false
   else
    (
     bif (a_1.Kind == 2) then
      some (a_1.Kind == 2)
     else
      some (a_1.Kind == 3)).bind fun b4 =>
    bif b4 then
     (idx a_0.Pins a_1.From).bind fun y2 =>
     bif y2.Clock then
      some (a_1.Sense == 0)
     else
      some false
    else
     some false

theorem qjj {n : Nat} {w : World} {a_0 : qA} {a_1 : qX} {cs1 : List Value} (ha1 : GoT.R w (old w) a_0 cs1) {cs2 : List Value} (ha2 : GoT.R w (old w) a_1 cs2) {r : Bool} (hF : qeG n a_0 a_1 = some r) : RetV Tryz.prog 182 [GoT.v qA cs1, GoT.v qX cs2] w r := by
 obtain ⟨p1, k1, p2, k2, p3, k3, rfl, s1, s2, s3⟩ := qS ha1
 obtain ⟨p4, k4, p5, k5, rfl, s4, s5⟩ := qao ha2
 refine qe Tryz.func182 rfl (m := 103) rfl rfl (fun h => ?_)
 rw [qeG] at hF
 refine zSR (qO h rfl rfl ?_)
 intro w1 bb1 h
 refine qO h rfl rfl ?_
 intro w2 bb2 h
 refine zp1 rfl (zNSSR (zp1 rfl (zl 0 0 h rfl ?_)))
 obtain ⟨r1, hr1, hF⟩ := qd hF
 refine qt r1 h call198 (qkt hr1) rfl rfl rfl rfl ?_
 intro w3 h
 refine qb ?_
 refine qu rfl hF ?_ ?_ <;> intro hF
 ·refine qbg ?_
  obtain ⟨KF1, hKF1, o1, hF, hK1⟩ := bindE hF
  refine qeA (fun e w' => ∃ (b1 : Bool), KF1 b1 = some r ∧ e = [(4, .bool b1)] ∧ SH w w' []) ?_ ?_
  ·refine qcQ rfl (by kernel_rfl) ?_
   refine zd1 rfl ?_
   refine zdl 0 3 h rfl ?_
   refine zd2 rfl ?_
   by_cases hc2 : (a_1.Sense == 0) = true
   ·replace hF := bifT hc2 hF
    refine qc0 hc2 (t := 11) rfl (qg rfl (zd1 rfl (qg rfl ?_)))
    refine zdl 0 5 h rfl ?_
    refine qg rfl (zd1 rfl (qg rfl (zd3 rfl ?_)))
    by_cases hc3 : ((a_1.Slew.length : Int) == 0) = true
    ·replace hF := bifT hc3 hF
     refine qc0 hc3 (t := 17) rfl (qg rfl (zd1 rfl (qg rfl ?_)))
     refine zdl 0 4 h rfl ?_
     refine qg rfl ?_
     obtain ⟨r2, hr2, hF⟩ := qd hF
     refine qc8 r2 (vsB _) call199 (fun _ hb => qf8 ⟨_, _, rfl, ((h.ext hb).oldS s4)⟩ hr2) rfl rfl rfl rfl ?_
     refine zd2 rfl ?_
     by_cases hc4 : r2 = true
     ·replace hF := bifT hc4 hF
      refine qc0 hc4 (t := 22) rfl (qg rfl (zd1 rfl (qg rfl ?_)))
      refine zdl 0 1 h rfl ?_
      refine qg rfl ?_
      refine zdl 1 0 h rfl ?_
      refine qg rfl ?_
      obtain ⟨r3, hr3, hF⟩ := qd hF
      refine qc8 r3 (vsI _) call200 (fun _ hb => qjg ((h.ext hb).old ha1) hr3) rfl rfl rfl rfl ?_
      refine qg rfl (zd3 rfl ?_)
      by_cases hc5 : (a_1.From == r3) = true
      ·replace hF := bifT hc5 hF
       refine qc0 hc5 (t := 29) rfl (qg rfl (zd1 rfl (qg rfl ?_)))
       refine zdl 0 1 h rfl ?_
       refine qg rfl (zd3 rfl ?_)
       by_cases hc6 : (decide (a_1.From ≥ 0)) = true
       ·replace hF := bifT hc6 hF
        refine qc0 hc6 (t := 34) rfl (qg rfl ?_)
        refine zdl 1 0 h rfl ?_
        refine qg rfl (zd1 rfl (qg rfl ?_))
        refine zdl 0 2 h rfl ?_
        refine qg rfl ?_
        obtain ⟨r4, hr4, hF⟩ := qd hF
        refine qc8 r4 (vsB _) call201 (fun _ hb => qgN ((h.ext hb).old ha1) hr4) rfl rfl rfl rfl ?_
        refine zd2 rfl ?_
        by_cases hc7 : r4 = true
        ·replace hF := bifT hc7 hF
         refine qc0 hc7 (t := 40) rfl (qg rfl (zd1 rfl (qg rfl ?_)))
         refine zdl 0 2 h rfl ?_
         refine qg rfl (zd1 rfl (qg rfl ?_))
         refine zdl 0 1 h rfl ?_
         refine qg rfl (zd3 rfl ?_)
         refine qbj (fun w4 hb => ?_)
         replace h := h.ext hb
         clear hb
         replace h := h.pick [] rfl
         obtain rfl := qi hF
         exact qz [(4, _)] ⟨rfl, trivial⟩ ⟨_, hK1, rfl, h⟩
        replace hc7 := zb hc7
        replace hF := bifF hc7 hF
        refine qc9 hc7 (t := 40) rfl (qk rfl rfl rfl (qk rfl rfl rfl (qk rfl rfl rfl (qk rfl rfl rfl (qk rfl rfl rfl (zd2 rfl ?_))))))
        refine qbj (fun w5 hb => ?_)
        replace h := h.ext hb
        clear hb
        replace h := h.pick [] rfl
        obtain rfl := qi hF
        exact qz [(4, _)] ⟨rfl, trivial⟩ ⟨_, hK1, rfl, h⟩
       replace hc6 := zb hc6
       replace hF := bifF hc6 hF
       refine qc9 hc6 (t := 34) rfl (qk rfl rfl rfl (qk rfl rfl rfl (qk rfl rfl rfl (qk rfl rfl rfl (zd2 rfl (qk rfl rfl rfl (qk rfl rfl rfl (qk rfl rfl rfl (qk rfl rfl rfl (qk rfl rfl rfl ?_))))))))))
       refine zd2 rfl ?_
       refine qbj (fun w6 hb => ?_)
       replace h := h.ext hb
       clear hb
       replace h := h.pick [] rfl
       obtain rfl := qi hF
       exact qz [(4, _)] ⟨rfl, trivial⟩ ⟨_, hK1, rfl, h⟩
      replace hc5 := zb hc5
      replace hF := bifF hc5 hF
      refine qc9 hc5 (t := 29) rfl (qk rfl rfl rfl (qk rfl rfl rfl (qk rfl rfl rfl (zd2 rfl (qk rfl rfl rfl (qk rfl rfl rfl (qk rfl rfl rfl (qk rfl rfl rfl (zd2 rfl ?_)))))))))
      refine qk rfl rfl rfl (qk rfl rfl rfl (qk rfl rfl rfl (qk rfl rfl rfl (qk rfl rfl rfl (zd2 rfl ?_)))))
      refine qbj (fun w7 hb => ?_)
      replace h := h.ext hb
      clear hb
      replace h := h.pick [] rfl
      obtain rfl := qi hF
      exact qz [(4, _)] ⟨rfl, trivial⟩ ⟨_, hK1, rfl, h⟩
     replace hc4 := zb hc4
     replace hF := bifF hc4 hF
     refine qc9 hc4 (t := 22) rfl (qk rfl rfl rfl (qk rfl rfl rfl (qk rfl rfl rfl (qk rfl rfl rfl (qk rfl rfl rfl (zd2 rfl (qk rfl rfl rfl (qk rfl rfl rfl (qk rfl rfl rfl (zd1 rfl ?_))))))))))
     refine zd1 rfl (qk rfl rfl rfl (qk rfl rfl rfl (qk rfl rfl rfl (qk rfl rfl rfl (zd2 rfl (qk rfl rfl rfl (qk rfl rfl rfl (qk rfl rfl rfl (qk rfl rfl rfl (qk rfl rfl rfl ?_))))))))))
     refine zd2 rfl ?_
     refine qbj (fun w8 hb => ?_)
     replace h := h.ext hb
     clear hb
     replace h := h.pick [] rfl
     obtain rfl := qi hF
     exact qz [(4, _)] ⟨rfl, trivial⟩ ⟨_, hK1, rfl, h⟩
    replace hc3 := zb hc3
    replace hF := bifF hc3 hF
    refine qc9 hc3 (t := 17) rfl (qk rfl rfl rfl (qk rfl rfl rfl (qk rfl rfl rfl (zd2 rfl (qk rfl rfl rfl (qk rfl rfl rfl (qk rfl rfl rfl (qk rfl rfl rfl (qk rfl rfl rfl (zd1 rfl ?_))))))))))
    refine zd1 rfl (qk rfl rfl rfl (qk rfl rfl rfl (qk rfl rfl rfl (zd2 rfl (qk rfl rfl rfl (qk rfl rfl rfl (qk rfl rfl rfl (qk rfl rfl rfl (zd2 rfl ?_)))))))))
    refine qk rfl rfl rfl (qk rfl rfl rfl (qk rfl rfl rfl (qk rfl rfl rfl (qk rfl rfl rfl (zd2 rfl ?_)))))
    refine qbj (fun w9 hb => ?_)
    replace h := h.ext hb
    clear hb
    replace h := h.pick [] rfl
    obtain rfl := qi hF
    exact qz [(4, _)] ⟨rfl, trivial⟩ ⟨_, hK1, rfl, h⟩
   replace hc2 := zb hc2
   replace hF := bifF hc2 hF
   refine qc9 hc2 (t := 11) rfl (qk rfl rfl rfl (qk rfl rfl rfl (qk rfl rfl rfl (qk rfl rfl rfl (zd2 rfl (qk rfl rfl rfl (qk rfl rfl rfl (qk rfl rfl rfl (zd2 rfl ?_)))))))))
   refine qk rfl rfl rfl (qk rfl rfl rfl (qk rfl rfl rfl (qk rfl rfl rfl (qk rfl rfl rfl (zd2 rfl (qk rfl rfl rfl (qk rfl rfl rfl (qk rfl rfl rfl (zd2 rfl ?_)))))))))
   refine qk rfl rfl rfl (qk rfl rfl rfl (qk rfl rfl rfl (qk rfl rfl rfl (zd2 rfl (qk rfl rfl rfl (qk rfl rfl rfl (qk rfl rfl rfl (qk rfl rfl rfl (qk rfl rfl rfl (zd1 rfl ?_))))))))))
   refine zd1 rfl ?_
   refine qbj (fun w10 hb => ?_)
   replace h := h.ext hb
   clear hb
   replace h := h.pick [] rfl
   obtain rfl := qi hF
   exact qz [(4, _)] ⟨rfl, trivial⟩ ⟨_, hK1, rfl, h⟩
  rintro e1 w11 ⟨b1, hF, rfl, h⟩
  subst hKF1
  exact qx qc h hF ⟨rfl, trivial⟩
 refine zKSS ?_
 obtain ⟨KF3, hKF3, o3, hF, hK3⟩ := bindE hF
 refine qeA (fun e w' => ∃ (b2 : Bool), KF3 b2 = some r ∧ e = [(2, .pointer (some ⟨bb1, 0, none⟩)), (3, .pointer (some ⟨bb2, 0, none⟩)), (70, .bool b2)] ∧ SH w w' [Ch.box bb2 [.int .i64 a_1.Kind, .int .i64 a_1.From, .int .i64 a_1.To, .int .i64 a_1.Sense, .slice p4 a_1.Delay.length k4, .slice p5 a_1.Slew.length k5] 159, Ch.box bb1 [.string a_0.Name, .int .i64 a_0.Kind, .slice p1 a_0.Pins.length k1, .slice p2 a_0.Arcs.length k2, .slice p3 a_0.Truth.length k3, .int .i64 a_0.Leak, .int .i64 a_0.Energy] 155]) ?_ ?_
 ·refine qcQ rfl (by kernel_rfl) ?_
  refine zd1 rfl ?_
  refine zdl 0 4 h rfl ?_
  obtain ⟨r6, hr8, hF⟩ := qd hF
  refine qc8 r6 (vsB _) call199 (fun _ hb => qf8 ⟨_, _, rfl, ((h.ext hb).oldS s4)⟩ hr8) rfl rfl rfl rfl ?_
  refine zd2 rfl ?_
  by_cases hc16 : (!r6) = true
  ·replace hF := bifT hc16 hF
   refine qc0 hc16 (t := 51) rfl (qk rfl rfl rfl (qk rfl rfl rfl (qk rfl rfl rfl (qk rfl rfl rfl (zd2 rfl (qk rfl rfl rfl (qk rfl rfl rfl (qk rfl rfl rfl (qk rfl rfl rfl (qk rfl rfl rfl ?_))))))))))
   refine zd2 rfl (qk rfl rfl rfl (qk rfl rfl rfl (qk rfl rfl rfl (qk rfl rfl rfl (qk rfl rfl rfl (zd1 rfl ?_))))))
   refine qbj (fun w14 hb => ?_)
   replace h := h.ext hb
   clear hb
   obtain rfl := qi hF
   exact qz [(2, _), (3, _), (70, _)] ⟨rfl, rfl, rfl, trivial⟩ ⟨_, hK3, rfl, h⟩
  replace hc16 := zb hc16
  replace hF := bifF hc16 hF
  refine qc9 hc16 (t := 51) rfl (qg rfl (zd1 rfl (qg rfl ?_)))
  refine zdl 0 5 h rfl ?_
  refine qg rfl ?_
  obtain ⟨r7, hr9, hF⟩ := qd hF
  refine qc8 r7 (vsB _) call199 (fun _ hb => qf8 ⟨_, _, rfl, ((h.ext hb).oldS s5)⟩ hr9) rfl rfl rfl rfl ?_
  refine qg rfl (zd3 rfl ?_)
  by_cases hc17 : (!r7) = true
  ·replace hF := bifT hc17 hF
   refine qc0 hc17 (t := 57) rfl (qk rfl rfl rfl (qk rfl rfl rfl (qk rfl rfl rfl (qk rfl rfl rfl (qk rfl rfl rfl (zd2 rfl (qk rfl rfl rfl (qk rfl rfl rfl (qk rfl rfl rfl (qk rfl rfl rfl ?_))))))))))
   refine qk rfl rfl rfl (zd1 rfl ?_)
   refine qbj (fun w15 hb => ?_)
   replace h := h.ext hb
   clear hb
   obtain rfl := qi hF
   exact qz [(2, _), (3, _), (70, _)] ⟨rfl, rfl, rfl, trivial⟩ ⟨_, hK3, rfl, h⟩
  replace hc17 := zb hc17
  replace hF := bifF hc17 hF
  refine qc9 hc17 (t := 57) rfl (qg rfl (zd1 rfl (qg rfl ?_)))
  refine zdl 0 2 h rfl ?_
  refine qg rfl ?_
  refine zdl 1 0 h rfl ?_
  refine qg rfl ?_
  obtain ⟨r8, hr10, hF⟩ := qd hF
  refine qc8 r8 (vsI _) call106 (fun _ hb => qd8 ((h.ext hb).old ha1) hr10) rfl rfl rfl rfl ?_
  refine qg rfl (zd3 rfl ?_)
  by_cases hc18 : (a_1.To != r8) = true
  ·replace hF := bifT hc18 hF
   refine qc0 hc18 (t := 64) rfl (qk rfl rfl rfl (qk rfl rfl rfl (qk rfl rfl rfl (qk rfl rfl rfl (qk rfl rfl rfl (zd1 rfl ?_))))))
   refine qbj (fun w16 hb => ?_)
   replace h := h.ext hb
   clear hb
   obtain rfl := qi hF
   exact qz [(2, _), (3, _), (70, _)] ⟨rfl, rfl, rfl, trivial⟩ ⟨_, hK3, rfl, h⟩
  replace hc18 := zb hc18
  replace hF := bifF hc18 hF
  refine qc9 hc18 (t := 64) rfl (qg rfl ?_)
  refine zdl 1 0 h rfl ?_
  refine qg rfl (zd1 rfl (qg rfl ?_))
  refine zdl 0 1 h rfl ?_
  refine qg rfl ?_
  obtain ⟨r9, hr11, hF⟩ := qd hF
  refine qc8 r9 (vsB _) call201 (fun _ hb => qgN ((h.ext hb).old ha1) hr11) rfl rfl rfl rfl ?_
  refine qg rfl (zd2 rfl ?_)
  refine qbj (fun w17 hb => ?_)
  replace h := h.ext hb
  clear hb
  obtain rfl := qi hF
  exact qz [(2, _), (3, _), (70, _)] ⟨rfl, rfl, rfl, trivial⟩ ⟨_, hK3, rfl, h⟩
 rintro e3 w18 ⟨b2, hF, rfl, h⟩
 subst hKF3
 refine qu rfl hF ?_ ?_ <;> intro hF
 ·exact zSR (zp1 rfl (qb (qx qc h hF ⟨rfl, trivial⟩)))
 refine zKSSR (zp1 rfl (zl 0 0 h rfl (qb (zBSR (zp2 rfl ?_)))))
 refine qb ?_
 refine qu rfl hF ?_ ?_ <;> intro hF
 ·refine zSR (zp1 rfl (zl 1 2 h rfl (zp1 rfl (zl 0 1 h rfl ?_))))
  obtain ⟨y1, hy1, hF⟩ := qd hF
  have he1 := qf hy1
  obtain ⟨b3, o_1, q1, cs3, hp1, hq1, -, hr5, hc10⟩ := s1.at hy1
  obtain rfl := qbd hr5
  refine zxe hp1 hq1 he1 rfl (zp1 rfl (zc 3 (hc10.below h.below) rfl (zp2 rfl ?_)))
  by_cases hc11 : (!y1.Clock) = true
  ·replace hF := bifT hc11 hF
   refine qD hc11 (t := 83) rfl (qa rfl (zp1 rfl (qa rfl (zl 0 3 h rfl (qa rfl ?_)))))
   obtain ⟨r5, hr6, hF⟩ := qd hF
   refine qt r5 h call100 (qa3 hr6) rfl rfl rfl rfl ?_
   intro w12 h
   exact zp2 rfl (qb (qx qc h hF ⟨rfl, trivial⟩))
  replace hc11 := zb hc11
  replace hF := bifF hc11 hF
  exact qC hc11 (t := 83) rfl (zn3 rfl (zp2 rfl (qb (qx qc h hF ⟨rfl, trivial⟩))))
 refine zSSR (zp2 rfl (qb ?_))
 obtain ⟨KF2, hKF2, o2, hF, hK2⟩ := bindE hF
 refine qeA (fun e w' => ∃ (b4 : Bool), KF2 b4 = some r ∧ e = [(2, .pointer (some ⟨bb1, 0, none⟩)), (3, .pointer (some ⟨bb2, 0, none⟩)), (88, .bool b4)] ∧ SH w w' [Ch.box bb2 [.int .i64 a_1.Kind, .int .i64 a_1.From, .int .i64 a_1.To, .int .i64 a_1.Sense, .slice p4 a_1.Delay.length k4, .slice p5 a_1.Slew.length k5] 159, Ch.box bb1 [.string a_0.Name, .int .i64 a_0.Kind, .slice p1 a_0.Pins.length k1, .slice p2 a_0.Arcs.length k2, .slice p3 a_0.Truth.length k3, .int .i64 a_0.Leak, .int .i64 a_0.Energy] 155]) ?_ ?_
 ·refine qu rfl hF ?_ ?_ <;> intro hF
  ·refine qew ?_
   obtain rfl := qi hF
   exact qz [(2, _), (3, _), (88, _)] ⟨rfl, rfl, rfl, trivial⟩ ⟨_, hK2, rfl, h⟩
  refine qB (zp2 rfl (qb ?_))
  obtain rfl := qi hF
  exact qz [(2, _), (3, _), (88, _)] ⟨rfl, rfl, rfl, trivial⟩ ⟨_, hK2, rfl, h⟩
 rintro e2 w13 ⟨b4, hF, rfl, h⟩
 subst hKF2
 refine qu rfl hF ?_ ?_ <;> intro hF
 ·refine zSR (zp1 rfl (zl 1 2 h rfl (zp1 rfl (zl 0 1 h rfl ?_))))
  obtain ⟨y2, hy2, hF⟩ := qd hF
  have he2 := qf hy2
  obtain ⟨b5, o_2, q2, cs4, hp2, hq2, -, hr7, hc13⟩ := s1.at hy2
  obtain rfl := qbd hr7
  refine zxe hp2 hq2 he2 rfl (zp1 rfl (zc 3 (hc13.below h.below) rfl (zp1 rfl ?_)))
  by_cases hc14 : y2.Clock = true
  ·replace hF := bifT hc14 hF
   exact qD hc14 (t := 98) rfl (qa rfl (zp1 rfl (qa rfl (zl 0 3 h rfl (qa rfl (zp3 rfl (qb (qx qc h hF ⟨rfl, trivial⟩))))))))
  replace hc14 := zb hc14
  replace hF := bifF hc14 hF
  exact qC hc14 (t := 98) rfl (zn3 rfl (zp2 rfl (qb (qx qc h hF ⟨rfl, trivial⟩))))
 exact zKE (zSR (zp1 rfl (qb (qx qc h hF ⟨rfl, trivial⟩))))

def qdo (_ : Nat) (a_o : qX) (v0 : qX) : Option Bool :=
 bif (a_o.Kind == v0.Kind) then
  bif (a_o.From == v0.From) then
   some (a_o.To == v0.To)
  else
   some false
 else
  some false

theorem qic {n : Nat} {w : World} {a_o : qX} {v0 : qX} {cs1 : List Value} (ha1 : GoT.R w (old w) a_o cs1) {p3 : Option Addr} (ha2 : GoT.R w (old w) (some v0) [.pointer p3]) {r : Bool} (hF : qdo n a_o v0 = some r) : RetV Tryz.prog 183 [GoT.v qX cs1, .pointer p3] w r := by
 obtain ⟨p1, k1, p2, k2, rfl, s1, s2⟩ := qao ha1
 obtain ⟨b1, o_1, cs2, rfl, -, hr1, hc1⟩ := PtR.get ha2 rfl
 obtain ⟨p4, k3, p5, k4, rfl, s3, s4⟩ := qao hr1
 refine qe Tryz.func183 rfl (m := 23) rfl rfl (fun h => ?_)
 rw [qdo] at hF
 refine zSR (qO h rfl rfl ?_)
 intro w1 bb1 h
 refine zp1 rfl (zNSR (zp1 rfl (zl 0 0 h rfl (zp1 rfl (zc 0 (hc1.below h.below) rfl (zp2 rfl ?_))))))
 by_cases hc2 : (a_o.Kind == v0.Kind) = true
 ·replace hF := bifT hc2 hF
  refine qD hc2 (t := 9) rfl (qa rfl (zp1 rfl (qa rfl (zl 0 1 h rfl (qa rfl (zp1 rfl (qa rfl (zc 1 (hc1.below h.below) rfl (qa rfl (zp2 rfl ?_))))))))))
  refine zp1 rfl ?_
  by_cases hc3 : (a_o.From == v0.From) = true
  ·replace hF := bifT hc3 hF
   refine qD hc3 (t := 16) rfl (qa rfl (zp1 rfl (qa rfl (zl 0 2 h rfl (qa rfl (zp1 rfl (qa rfl (zc 2 (hc1.below h.below) rfl (qa rfl (zp2 rfl ?_))))))))))
   exact zp1 rfl (qb (qx qc h hF ⟨rfl, trivial⟩))
  replace hc3 := zb hc3
  replace hF := bifF hc3 hF
  exact qC hc3 (t := 16) rfl (zn5 rfl (zp2 rfl (qb (qx qc h hF ⟨rfl, trivial⟩))))
 replace hc2 := zb hc2
 replace hF := bifF hc2 hF
 refine qC hc2 (t := 9) rfl (zn5 rfl (zp2 rfl (zn4 rfl ?_)))
 exact zn1 rfl (zp2 rfl (qb (qx qc h hF ⟨rfl, trivial⟩)))

def qJ (s : (List qX)) (f_0 : qX) : Nat → Int → Option (Flow Int Int)
 | 0, _ => none
 | n + 1, i1 =>
  bif decide (i1 < (s.length : Int)) then
   (idx s i1).bind fun y1 =>
   (qdo n y1 f_0).bind fun r1 =>
   bif r1 then
    some (.ret i1)
   else
    qJ s f_0 n (W64 (i1 + 1))
  else
   some (.nxt i1)

def qaA (n : Nat) (s : (List qX)) (f_0 : qX) : Option Int :=
 (qJ s f_0 n 0).bind fun o => match o with
 | .ret r => some r
 | .nxt _ =>
  some (-1)

theorem qdN {n : Nat} {w : World} {s : (List qX)} {f_0 : qX} {cs1 : List Value} (ha1 : GoT.R w (old w) s cs1) {p2 : Option Addr} (ha2 : GoT.R w (old w) (some f_0) [.pointer p2]) {r : Int} (hF : qaA n s f_0 = some r) : RetV Tryz.prog 141 [GoT.v (List qX) cs1, .func (.func 183) #[] #[.pointer p2]] w r := by
 obtain ⟨p1, k1, rfl, s1⟩ := ha1
 obtain ⟨b1, o_1, cs2, rfl, -, hr1, hc1⟩ := PtR.get ha2 rfl
 obtain ⟨p3, k2, p4, k3, rfl, s2, s3⟩ := qao hr1
 refine qe Tryz.func141 rfl (m := 19) rfl rfl (fun h => ?_)
 rw [qaA] at hF
 refine zSR (zp1 rfl (zNSSR (zp3 rfl (qb ?_))))
 obtain ⟨o1, hF, hK1⟩ := qd hF
 refine qv (qR [(0, _), (1, _), (7, _), (8, _)] ⟨rfl, rfl, rfl, rfl, trivial⟩ ?_)
 refine qG (fun m e w' => ∃ (i1 : Int), qJ s f_0 m i1 = some o1 ∧ e = [(0, .slice p1 s.length k1), (1, .func (.func 183) #[] #[.pointer (some ⟨b1, o_1, none⟩)]), (7, .int .i64 (s.length : Int)), (8, .int .i64 i1)] ∧ SH w w' []) n ⟨_, hF, rfl, h⟩ ?_
 rintro m1 e1 w1 ⟨i1, hF, rfl, h⟩
 rcases m1 with _ | m1
 ·rw [qJ] at hF
  cases hF
 rw [qJ] at hF
 refine zSR (zp1 rfl (zNS ?_))
 refine qu rfl hF ?_ ?_ <;> intro hF
 ·refine zKSBSR (zp2 rfl (zNSR (zp2 rfl ?_)))
  refine zp1 rfl ?_
  obtain ⟨y1, hy1, hF⟩ := qd hF
  have he1 := qf hy1
  obtain ⟨b2, o_2, q1, cs3, hp1, hq1, -, hr2, hc3⟩ := s1.at hy1
  obtain ⟨p5, k4, p6, k5, rfl, s4, s5⟩ := qao hr2
  refine zxe hp1 hq1 he1 rfl (zc 0 (hc3.below h.below) rfl ?_)
  obtain ⟨r1, hr3, hF⟩ := qd hF
  refine qt r1 h call183 (qic (qeU y1 (h.oldS s4) (h.oldS s5)) (h.old ha2) hr3) rfl rfl rfl rfl ?_
  intro w2 h
  refine qb ?_
  refine qu rfl hF ?_ ?_ <;> intro hF
  ·refine zSR (zp2 rfl (qb ?_))
   obtain rfl := qi hF; replace hF := hK1
   exact qaS qc h hF ⟨rfl, trivial⟩
  exact zKER (zp2 rfl (qb (qy m1 [(0, _), (1, _), (7, _), (8, _)] (Nat.lt_succ_self m1) ⟨rfl, rfl, rfl, rfl, trivial⟩ ⟨_, hF, rfl, h⟩)))
 refine qH rfl ?_
 obtain rfl := qi hF; replace hF := hK1
 exact zSR (zp1 rfl (qb (qaS qc h hF ⟨rfl, trivial⟩)))

def qZ (n : Nat) (s : (List qX)) (f_0 : qX) : Option Bool :=
 (qaA n s f_0).bind fun r1 =>
 some (decide (r1 ≥ 0))

theorem qdv {n : Nat} {w : World} {s : (List qX)} {f_0 : qX} {cs1 : List Value} (ha1 : GoT.R w (old w) s cs1) {p2 : Option Addr} (ha2 : GoT.R w (old w) (some f_0) [.pointer p2]) {r : Bool} (hF : qZ n s f_0 = some r) : RetV Tryz.prog 103 [GoT.v (List qX) cs1, .func (.func 183) #[] #[.pointer p2]] w r := by
 obtain ⟨p1, k1, rfl, s1⟩ := ha1
 obtain ⟨b1, o_1, cs2, rfl, -, hr1, hc1⟩ := PtR.get ha2 rfl
 obtain ⟨p3, k2, p4, k3, rfl, s2, s3⟩ := qao hr1
 refine qe Tryz.func103 rfl (m := 9) rfl rfl (fun h => ?_)
 rw [qZ] at hF
 refine zSR (zp1 rfl (zNSR (zp2 rfl ?_)))
 obtain ⟨r1, hr2, hF⟩ := qd hF
 refine qW r1 h call141 (qdN ⟨_, _, rfl, (h.oldS s1)⟩ (h.old ha2) hr2) rfl rfl rfl rfl ?_
 intro w1 h
 exact zp2 rfl (qb (qx qc h hF ⟨rfl, trivial⟩))

def qbh (c : qA) : Nat → Int → Option (Flow Bool Int)
 | 0, _ => none
 | n + 1, i1 =>
  bif decide (i1 < (c.Arcs.length : Int)) then
   (idx c.Arcs i1).bind fun y1 =>
   (qeG n c y1).bind fun r1 =>
   bif (!r1) then
    some (.ret false)
   else
    (subS c.Arcs 0 i1).bind fun x1 =>
    (qZ n x1 y1).bind fun r2 =>
    bif r2 then
     some (.ret false)
    else
     qbh c n (W64 (i1 + 1))
  else
   some (.nxt i1)

def qd3 (n : Nat) (c : qA) : Option Bool :=
 (qbh c n 0).bind fun o => match o with
 | .ret r => some r
 | .nxt _ =>
  some (decide ((c.Arcs.length : Int) ≤ 8))

theorem qiL {n : Nat} {w : World} {c : qA} {cs1 : List Value} (ha1 : GoT.R w (old w) c cs1) {r : Bool} (hF : qd3 n c = some r) : RetV Tryz.prog 172 [GoT.v qA cs1] w r := by
 obtain ⟨p1, k1, p2, k2, p3, k3, rfl, s1, s2, s3⟩ := qS ha1
 refine qe Tryz.func172 rfl (m := 30) rfl rfl (fun h => ?_)
 rw [qd3] at hF
 refine zSR (qO h rfl rfl ?_)
 intro w1 bb1 h
 refine zp1 rfl (zNSSR (zp1 rfl (zl 0 3 h rfl (zp2 rfl (qb ?_)))))
 obtain ⟨o1, hF, hK1⟩ := qd hF
 refine qv (qR [(1, _), (6, _), (7, _), (8, _)] ⟨rfl, rfl, rfl, rfl, trivial⟩ ?_)
 refine qG (fun m e w' => ∃ (i1 : Int), qbh c m i1 = some o1 ∧ e = [(1, .pointer (some ⟨bb1, 0, none⟩)), (6, .slice p2 c.Arcs.length k2), (7, .int .i64 (c.Arcs.length : Int)), (8, .int .i64 i1)] ∧ SH w w' [Ch.box bb1 [.string c.Name, .int .i64 c.Kind, .slice p1 c.Pins.length k1, .slice p2 c.Arcs.length k2, .slice p3 c.Truth.length k3, .int .i64 c.Leak, .int .i64 c.Energy] 155]) n ⟨_, hF, rfl, h⟩ ?_
 rintro m1 e1 w2 ⟨i1, hF, rfl, h⟩
 rcases m1 with _ | m1
 ·rw [qbh] at hF
  cases hF
 rw [qbh] at hF
 refine zSR (zp1 rfl (zNS ?_))
 refine qu rfl hF ?_ ?_ <;> intro hF
 ·refine zKSBSR (zp1 rfl ?_)
  obtain ⟨y1, hy1, hF⟩ := qd hF
  have he1 := qf hy1
  obtain ⟨b1, o_1, q1, cs2, hp1, hq1, -, hr1, hc2⟩ := s2.at hy1
  obtain ⟨p4, k4, p5, k5, rfl, s4, s5⟩ := qao hr1
  refine zxe hp1 hq1 he1 rfl (zc 0 (hc2.below h.below) rfl (qU qc h rfl rfl rfl ?_))
  intro w3 bb2 h
  refine zp1 rfl (zs 0 h rfl ?_)
  intro w4 h
  refine zNSR (zl 1 0 h rfl (zl 0 0 h rfl ?_))
  obtain ⟨r1, hr2, hF⟩ := qd hF
  refine qt r1 h call182 (qjj (h.old ha1) (qeU y1 (h.oldS s4) (h.oldS s5)) hr2) rfl rfl rfl rfl ?_
  intro w5 h
  refine zp2 rfl ?_
  by_cases hc3 : (!r1) = true
  ·replace hF := bifT hc3 hF
   refine qD hc3 (t := 17) rfl (zn5 rfl (zn1 rfl (zp1 rfl (qb (qeR rfl rfl (zSR ?_))))))
   refine zp1 rfl (qb ?_)
   obtain rfl := qi hF; replace hF := hK1
   exact qx qc h hF ⟨rfl, trivial⟩
  replace hc3 := zb hc3
  replace hF := bifF hc3 hF
  refine qC hc3 (t := 17) rfl (qa rfl (zp1 rfl (qa rfl (zl 1 3 h rfl (qa rfl (zp1 rfl (qa rfl ?_)))))))
  obtain ⟨x1, hx1, hF⟩ := qd hF
  obtain ⟨p6, k6, hp2, hk1, hl1, g1⟩ := qo1 (h.oldS s2) hx1
  refine r_v (qmA qc rfl rfl rfl (qpg g1 rfl) hp2 hk1 hl1 rfl rfl rfl rfl) rfl ?_
  have s6 := qoQ s2 hx1 hp2 hk1
  refine qa rfl (zp1 rfl (qa rfl ?_))
  obtain ⟨r2, hr3, hF⟩ := qd hF
  refine qt r2 h call103 (qdv ⟨_, _, rfl, (h.oldS s6)⟩ (qhr (x := y1) 0 h rfl (qeU y1 (h.oldS s4) (h.oldS s5))) hr3) rfl rfl rfl rfl ?_
  intro w6 h
  refine zp1 rfl (qb ?_)
  refine qu rfl hF ?_ ?_ <;> intro hF
  ·refine zSR (zp1 rfl (qb ?_))
   obtain rfl := qi hF; replace hF := hK1
   exact qx qc h hF ⟨rfl, trivial⟩
  refine zKER (zp2 rfl (qb ?_))
  replace h := h.pick [1] rfl
  exact qy m1 [(1, _), (6, _), (7, _), (8, _)] (Nat.lt_succ_self m1) ⟨rfl, rfl, rfl, rfl, trivial⟩ ⟨_, hF, rfl, h⟩
 refine qH rfl ?_
 obtain rfl := qi hF; replace hF := hK1
 exact zSR (zp1 rfl (zl 0 3 h rfl (zp3 rfl (qb (qx qc h hF ⟨rfl, trivial⟩)))))

def qfF (_ : Nat) (a : qX) (v0 : Int) : Option Bool :=
 some (a.Kind == v0)

theorem qjk {n : Nat} {w : World} {a : qX} {v0 : Int} {cs1 : List Value} (ha1 : GoT.R w (old w) a cs1) {p3 : Option Addr} (ha2 : GoT.R w (old w) (some v0) [.pointer p3]) {r : Bool} (hF : qfF n a v0 = some r) : RetV Tryz.prog 202 [GoT.v qX cs1, .pointer p3] w r := by
 obtain ⟨p1, k1, p2, k2, rfl, s1, s2⟩ := qao ha1
 obtain ⟨b1, o_1, cs2, rfl, -, hr1, hc1⟩ := PtR.get ha2 rfl
 obtain rfl := hr1
 refine qe Tryz.func202 rfl (m := 8) rfl rfl (fun h => ?_)
 rw [qfF] at hF
 refine zSR (qO h rfl rfl ?_)
 intro w1 bb1 h
 exact zp1 rfl (zNSR (zp1 rfl (zl 0 0 h rfl (zc 0 (hc1.below h.below) rfl (zp2 rfl (qb (qx qc h hF ⟨rfl, trivial⟩)))))))

def qM (s : (List qX)) (f_0 : Int) : Nat → Int → Option (Flow Int Int)
 | 0, _ => none
 | n + 1, i1 =>
  bif decide (i1 < (s.length : Int)) then
   (idx s i1).bind fun y1 =>
   (qfF n y1 f_0).bind fun r1 =>
   bif r1 then
    some (.ret i1)
   else
    qM s f_0 n (W64 (i1 + 1))
  else
   some (.nxt i1)

def qaR (n : Nat) (s : (List qX)) (f_0 : Int) : Option Int :=
 (qM s f_0 n 0).bind fun o => match o with
 | .ret r => some r
 | .nxt _ =>
  some (-1)

theorem qeh {n : Nat} {w : World} {s : (List qX)} {f_0 : Int} {cs1 : List Value} (ha1 : GoT.R w (old w) s cs1) {p2 : Option Addr} (ha2 : GoT.R w (old w) (some f_0) [.pointer p2]) {r : Int} (hF : qaR n s f_0 = some r) : RetV Tryz.prog 141 [GoT.v (List qX) cs1, .func (.func 202) #[] #[.pointer p2]] w r := by
 obtain ⟨p1, k1, rfl, s1⟩ := ha1
 obtain ⟨b1, o_1, cs2, rfl, -, hr1, hc1⟩ := PtR.get ha2 rfl
 obtain rfl := hr1
 refine qe Tryz.func141 rfl (m := 19) rfl rfl (fun h => ?_)
 rw [qaR] at hF
 refine zSR (zp1 rfl (zNSSR (zp3 rfl (qb ?_))))
 obtain ⟨o1, hF, hK1⟩ := qd hF
 refine qv (qR [(0, _), (1, _), (7, _), (8, _)] ⟨rfl, rfl, rfl, rfl, trivial⟩ ?_)
 refine qG (fun m e w' => ∃ (i1 : Int), qM s f_0 m i1 = some o1 ∧ e = [(0, .slice p1 s.length k1), (1, .func (.func 202) #[] #[.pointer (some ⟨b1, o_1, none⟩)]), (7, .int .i64 (s.length : Int)), (8, .int .i64 i1)] ∧ SH w w' []) n ⟨_, hF, rfl, h⟩ ?_
 rintro m1 e1 w1 ⟨i1, hF, rfl, h⟩
 rcases m1 with _ | m1
 ·rw [qM] at hF
  cases hF
 rw [qM] at hF
 refine zSR (zp1 rfl (zNS ?_))
 refine qu rfl hF ?_ ?_ <;> intro hF
 ·refine zKSBSR (zp2 rfl (zNSR (zp2 rfl ?_)))
  refine zp1 rfl ?_
  obtain ⟨y1, hy1, hF⟩ := qd hF
  have he1 := qf hy1
  obtain ⟨b2, o_2, q1, cs3, hp1, hq1, -, hr2, hc3⟩ := s1.at hy1
  obtain ⟨p3, k2, p4, k3, rfl, s2, s3⟩ := qao hr2
  refine zxe hp1 hq1 he1 rfl (zc 0 (hc3.below h.below) rfl ?_)
  obtain ⟨r1, hr3, hF⟩ := qd hF
  refine qt r1 h call202 (qjk (qeU y1 (h.oldS s2) (h.oldS s3)) (h.old ha2) hr3) rfl rfl rfl rfl ?_
  intro w2 h
  refine qb ?_
  refine qu rfl hF ?_ ?_ <;> intro hF
  ·refine zSR (zp2 rfl (qb ?_))
   obtain rfl := qi hF; replace hF := hK1
   exact qaS qc h hF ⟨rfl, trivial⟩
  exact zKER (zp2 rfl (qb (qy m1 [(0, _), (1, _), (7, _), (8, _)] (Nat.lt_succ_self m1) ⟨rfl, rfl, rfl, rfl, trivial⟩ ⟨_, hF, rfl, h⟩)))
 refine qH rfl ?_
 obtain rfl := qi hF; replace hF := hK1
 exact zSR (zp1 rfl (qb (qaS qc h hF ⟨rfl, trivial⟩)))

def qaB (n : Nat) (s : (List qX)) (f_0 : Int) : Option Bool :=
 (qaR n s f_0).bind fun r1 =>
 some (decide (r1 ≥ 0))

theorem qdX {n : Nat} {w : World} {s : (List qX)} {f_0 : Int} {cs1 : List Value} (ha1 : GoT.R w (old w) s cs1) {p2 : Option Addr} (ha2 : GoT.R w (old w) (some f_0) [.pointer p2]) {r : Bool} (hF : qaB n s f_0 = some r) : RetV Tryz.prog 103 [GoT.v (List qX) cs1, .func (.func 202) #[] #[.pointer p2]] w r := by
 obtain ⟨p1, k1, rfl, s1⟩ := ha1
 obtain ⟨b1, o_1, cs2, rfl, -, hr1, hc1⟩ := PtR.get ha2 rfl
 obtain rfl := hr1
 refine qe Tryz.func103 rfl (m := 9) rfl rfl (fun h => ?_)
 rw [qaB] at hF
 refine zSR (zp1 rfl (zNSR (zp2 rfl ?_)))
 obtain ⟨r1, hr2, hF⟩ := qd hF
 refine qW r1 h call141 (qeh ⟨_, _, rfl, (h.oldS s1)⟩ (h.old ha2) hr2) rfl rfl rfl rfl ?_
 intro w1 h
 exact zp2 rfl (qb (qx qc h hF ⟨rfl, trivial⟩))

def qcn (n : Nat) (c : qA) (kind : Int) : Option Bool :=
 (qaB n c.Arcs kind).bind fun r1 =>
 some r1

theorem qdw {n : Nat} {w : World} {c : qA} {kind : Int} {cs1 : List Value} (ha1 : GoT.R w (old w) c cs1) {r : Bool} (hF : qcn n c kind = some r) : RetV Tryz.prog 184 [GoT.v qA cs1, .int .i64 kind] w r := by
 obtain ⟨p1, k1, p2, k2, p3, k3, rfl, s1, s2, s3⟩ := qS ha1
 refine qe Tryz.func184 rfl (m := 9) rfl rfl (fun h => ?_)
 rw [qcn] at hF
 refine zSR (qO h rfl rfl ?_)
 intro w1 bb1 h
 refine qO h rfl rfl ?_
 intro w2 bb2 h
 refine zp1 rfl (zNSR (zp1 rfl (zl 1 3 h rfl (zp1 rfl ?_))))
 obtain ⟨r1, hr1, hF⟩ := qd hF
 refine qt r1 h call103 (qdX ⟨_, _, rfl, (h.oldS s2)⟩ (qhr (x := kind) 0 h rfl rfl) hr1) rfl rfl rfl rfl ?_
 intro w3 h
 exact zp1 rfl (qb (qx qc h hF ⟨rfl, trivial⟩))

def qaE (a_0 : qA) : Nat → Int → Int → Option (Int × Int)
 | 0, _, _ => none
 | n + 1, i1, i2 =>
  bif decide (i2 < (a_0.Pins.length : Int)) then
   (idx a_0.Pins i2).bind fun y1 =>
   bif y1.Clock then
    qaE a_0 n (W64 (i1 + 1)) (W64 (i2 + 1))
   else
    qaE a_0 n i1 (W64 (i2 + 1))
  else
   some (i1, i2)

def qdH (n : Nat) (a_0 : qA) : Option Bool :=
 (qaE a_0 n 0 0).bind fun o => match o with
 | (i1, _) =>
  bif (a_0.Kind == 1) then
   bif (i1 == 0) then
    (qbR n a_0).bind fun r1 =>
    (shlS 1 r1).bind fun y2 =>
    bif ((a_0.Truth.length : Int) == y2) then
     (qb3 n a_0.Truth 0 1).bind fun r2 =>
     some r2
    else
     some false
   else
    some false
  else
   bif (a_0.Kind == 2) then
    bif (i1 == 1) then
     bif ((a_0.Truth.length : Int) == 0) then
      (qcn n a_0 1).bind fun r3 =>
      bif (!r3) then
       (qcn n a_0 2).bind fun r4 =>
       (qcn n a_0 3).bind fun r5 =>
       some (!(r4 == r5))
      else
       some false
     else
      some false
    else
     some false
   else
    bif (a_0.Kind == 3) then
     bif (i1 == 1) then
      bif ((a_0.Truth.length : Int) == 0) then
       (qcn n a_0 1).bind fun r6 =>
       bif r6 then
        (qcn n a_0 2).bind fun r7 =>
        bif r7 then
         (qcn n a_0 3).bind fun r8 =>
         some (!r8)
        else
         some false
       else
        some false
      else
       some false
     else
      some false
    else
     some false

theorem qip {n : Nat} {w : World} {a_0 : qA} {cs1 : List Value} (ha1 : GoT.R w (old w) a_0 cs1) {r : Bool} (hF : qdH n a_0 = some r) : RetV Tryz.prog 173 [GoT.v qA cs1] w r := by
 obtain ⟨p1, k1, p2, k2, p3, k3, rfl, s1, s2, s3⟩ := qS ha1
 refine qe Tryz.func173 rfl (m := 83) rfl rfl (fun h => ?_)
 rw [qdH] at hF
 refine zSR (qO h rfl rfl ?_)
 intro w1 bb1 h
 refine zp1 rfl (zNSR (zp1 rfl (zNSSR (zp1 rfl (zl 0 2 h rfl (zp1 rfl ?_))))))
 refine zp1 rfl (qb ?_)
 obtain ⟨o1, hF, hK1⟩ := qd hF
 refine qv (qR [(1, _), (3, _), (7, _), (8, _), (9, _)] ⟨rfl, rfl, rfl, rfl, rfl, trivial⟩ ?_)
 refine qG (fun m e w' => ∃ (i1 : Int) (i2 : Int), qaE a_0 m i1 i2 = some o1 ∧ e = [(1, .pointer (some ⟨bb1, 0, none⟩)), (3, .int .i64 i1), (7, .slice p1 a_0.Pins.length k1), (8, .int .i64 (a_0.Pins.length : Int)), (9, .int .i64 i2)] ∧ SH w w' [Ch.box bb1 [.string a_0.Name, .int .i64 a_0.Kind, .slice p1 a_0.Pins.length k1, .slice p2 a_0.Arcs.length k2, .slice p3 a_0.Truth.length k3, .int .i64 a_0.Leak, .int .i64 a_0.Energy] 155]) n ⟨_, _, hF, rfl, h⟩ ?_
 rintro m1 e1 w2 ⟨i1, i2, hF, rfl, h⟩
 rcases m1 with _ | m1
 ·rw [qaE] at hF
  cases hF
 rw [qaE] at hF
 refine zSR (zp1 rfl (zNS ?_))
 refine qu rfl hF ?_ ?_ <;> intro hF
 ·refine zKSBSR ?_
  obtain ⟨y1, hy1, hF⟩ := qd hF
  have he1 := qf hy1
  obtain ⟨b1, o_1, q1, cs2, hp1, hq1, -, hr1, hc2⟩ := s1.at hy1
  obtain rfl := qbd hr1
  refine zxe hp1 hq1 he1 rfl (zc 0 (hc2.below h.below) rfl (qU qc h rfl rfl rfl ?_))
  intro w3 bb2 h
  refine zs 0 h rfl ?_
  intro w4 h
  refine zNSR (zp1 rfl (zl 0 3 h rfl (qb ?_)))
  refine qu rfl hF ?_ ?_ <;> intro hF
  ·refine qB (zp3 rfl (zNER (zp2 rfl (qb ?_))))
   replace h := h.pick [1] rfl
   exact qy m1 [(1, _), (3, _), (7, _), (8, _), (9, _)] (Nat.lt_succ_self m1) ⟨rfl, rfl, rfl, rfl, rfl, trivial⟩ ⟨_, _, hF, rfl, h⟩
  refine zKER (zp2 rfl (qb ?_))
  replace h := h.pick [1] rfl
  exact qy m1 [(1, _), (3, _), (7, _), (8, _), (9, _)] (Nat.lt_succ_self m1) ⟨rfl, rfl, rfl, rfl, rfl, trivial⟩ ⟨_, _, hF, rfl, h⟩
 refine qH rfl ?_
 obtain rfl := qi hF; replace hF := hK1
 refine zSSR (zp1 rfl (zl 0 1 h rfl (qb (zBSR (zp2 rfl (qb ?_))))))
 refine qu rfl hF ?_ ?_ <;> intro hF
 ·refine qbg ?_
  refine qcQ rfl (by kernel_rfl) ?_
  refine zd3 rfl ?_
  by_cases hc5 : (i1 == 0) = true
  ·replace hF := bifT hc5 hF
   refine qc0 hc5 (t := 24) rfl (qg rfl (zd1 rfl (qg rfl ?_)))
   refine zdl 0 4 h rfl ?_
   refine qg rfl (zd1 rfl (qg rfl ?_))
   refine zdl 0 0 h rfl ?_
   refine qg rfl ?_
   obtain ⟨r1, hr2, hF⟩ := qd hF
   refine qc8 r1 (vsI _) call106 (fun _ hb => qd8 ((h.ext hb).old ha1) hr2) rfl rfl rfl rfl ?_
   refine qg rfl ?_
   obtain ⟨y2, hx1, hF⟩ := qd hF
   obtain ⟨g1, hx1⟩ := qlO hx1
   refine d_v (fun _ hb => qp9 g1 rfl rfl) rfl ?_
   rw [hx1]
   refine qg rfl (zd3 rfl ?_)
   by_cases hc6 : ((a_0.Truth.length : Int) == y2) = true
   ·replace hF := bifT hc6 hF
    refine qc0 hc6 (t := 33) rfl (qg rfl (zd1 rfl (qg rfl ?_)))
    refine zdl 0 4 h rfl ?_
    refine qg rfl ?_
    obtain ⟨r2, hr3, hF⟩ := qd hF
    refine qc8 r2 (vsB _) call82 (fun _ hb => qdd ⟨_, _, rfl, ((h.ext hb).oldS s3)⟩ hr3) rfl rfl rfl rfl ?_
    refine zd2 rfl ?_
    refine qbj (fun w5 hb => ?_)
    replace h := h.ext hb
    clear hb
    exact qx qc h hF ⟨rfl, trivial⟩
   replace hc6 := zb hc6
   replace hF := bifF hc6 hF
   refine qc9 hc6 (t := 33) rfl (qk rfl rfl rfl (qk rfl rfl rfl (qk rfl rfl rfl (zd2 rfl ?_))))
   refine qbj (fun w6 hb => ?_)
   replace h := h.ext hb
   clear hb
   exact qx qc h hF ⟨rfl, trivial⟩
  replace hc5 := zb hc5
  replace hF := bifF hc5 hF
  refine qc9 hc5 (t := 24) rfl (qk rfl rfl rfl (qk rfl rfl rfl (qk rfl rfl rfl (qk rfl rfl rfl (qk rfl rfl rfl (qk rfl rfl rfl (qk rfl rfl rfl (zd2 rfl (qk rfl rfl rfl (qk rfl rfl rfl ?_))))))))))
  refine qk rfl rfl rfl (zd2 rfl ?_)
  refine qbj (fun w7 hb => ?_)
  replace h := h.ext hb
  clear hb
  exact qx qc h hF ⟨rfl, trivial⟩
 refine zSR (zp2 rfl (qb ?_))
 refine qu rfl hF ?_ ?_ <;> intro hF
 ·refine qbg ?_
  refine qcQ rfl (by kernel_rfl) ?_
  refine zd3 rfl ?_
  by_cases hc8 : (i1 == 1) = true
  ·replace hF := bifT hc8 hF
   refine qc0 hc8 (t := 42) rfl (qg rfl (zd1 rfl (qg rfl ?_)))
   refine zdl 0 4 h rfl ?_
   refine qg rfl (zd1 rfl (qg rfl (zd3 rfl ?_)))
   by_cases hc9 : ((a_0.Truth.length : Int) == 0) = true
   ·replace hF := bifT hc9 hF
    refine qc0 hc9 (t := 48) rfl (qg rfl ?_)
    refine zdl 0 0 h rfl ?_
    refine qg rfl ?_
    obtain ⟨r3, hr4, hF⟩ := qd hF
    refine qc8 r3 (vsB _) call184 (fun _ hb => qdw ((h.ext hb).old ha1) hr4) rfl rfl rfl rfl ?_
    refine qg rfl (zd3 rfl ?_)
    by_cases hc10 : (!r3) = true
    ·replace hF := bifT hc10 hF
     refine qc0 hc10 (t := 53) rfl (qg rfl ?_)
     refine zdl 0 0 h rfl ?_
     refine qg rfl ?_
     obtain ⟨r4, hr5, hF⟩ := qd hF
     refine qc8 r4 (vsB _) call184 (fun _ hb => qdw ((h.ext hb).old ha1) hr5) rfl rfl rfl rfl ?_
     refine qg rfl ?_
     refine zdl 0 0 h rfl ?_
     refine qg rfl ?_
     obtain ⟨r5, hr6, hF⟩ := qd hF
     refine qc8 r5 (vsB _) call184 (fun _ hb => qdw ((h.ext hb).old ha1) hr6) rfl rfl rfl rfl ?_
     refine qg rfl (zd3 rfl ?_)
     refine qbj (fun w8 hb => ?_)
     replace h := h.ext hb
     clear hb
     exact qx qc h hF ⟨rfl, trivial⟩
    replace hc10 := zb hc10
    replace hF := bifF hc10 hF
    refine qc9 hc10 (t := 53) rfl (qk rfl rfl rfl (qk rfl rfl rfl (qk rfl rfl rfl (qk rfl rfl rfl (qk rfl rfl rfl (zd2 rfl ?_))))))
    refine qbj (fun w9 hb => ?_)
    replace h := h.ext hb
    clear hb
    exact qx qc h hF ⟨rfl, trivial⟩
   replace hc9 := zb hc9
   replace hF := bifF hc9 hF
   refine qc9 hc9 (t := 48) rfl (qk rfl rfl rfl (qk rfl rfl rfl (qk rfl rfl rfl (zd2 rfl (qk rfl rfl rfl (qk rfl rfl rfl (qk rfl rfl rfl (qk rfl rfl rfl (qk rfl rfl rfl (zd1 rfl ?_))))))))))
   refine zd1 rfl ?_
   refine qbj (fun w10 hb => ?_)
   replace h := h.ext hb
   clear hb
   exact qx qc h hF ⟨rfl, trivial⟩
  replace hc8 := zb hc8
  replace hF := bifF hc8 hF
  refine qc9 hc8 (t := 42) rfl (qk rfl rfl rfl (qk rfl rfl rfl (qk rfl rfl rfl (qk rfl rfl rfl (zd2 rfl (qk rfl rfl rfl (qk rfl rfl rfl (qk rfl rfl rfl (zd2 rfl ?_)))))))))
  refine qk rfl rfl rfl (qk rfl rfl rfl (qk rfl rfl rfl (qk rfl rfl rfl (qk rfl rfl rfl (zd2 rfl ?_)))))
  refine qbj (fun w11 hb => ?_)
  replace h := h.ext hb
  clear hb
  exact qx qc h hF ⟨rfl, trivial⟩
 refine zSR (zp2 rfl (qb ?_))
 refine qu rfl hF ?_ ?_ <;> intro hF
 ·refine zSR (zp3 rfl ?_)
  by_cases hc12 : (i1 == 1) = true
  ·replace hF := bifT hc12 hF
   refine qD hc12 (t := 64) rfl (qa rfl (zp1 rfl (qa rfl (zl 0 4 h rfl (qa rfl (zp1 rfl (qa rfl (zp3 rfl ?_))))))))
   by_cases hc13 : ((a_0.Truth.length : Int) == 0) = true
   ·replace hF := bifT hc13 hF
    refine qD hc13 (t := 70) rfl (qa rfl (zl 0 0 h rfl (qa rfl ?_)))
    obtain ⟨r6, hr7, hF⟩ := qd hF
    refine qt r6 h call184 (qdw (h.old ha1) hr7) rfl rfl rfl rfl ?_
    intro w12 h
    refine zp2 rfl ?_
    by_cases hc14 : r6 = true
    ·replace hF := bifT hc14 hF
     refine qD hc14 (t := 74) rfl (qa rfl (zl 0 0 h rfl (qa rfl ?_)))
     obtain ⟨r7, hr8, hF⟩ := qd hF
     refine qt r7 h call184 (qdw (h.old ha1) hr8) rfl rfl rfl rfl ?_
     intro w13 h
     refine zp2 rfl ?_
     by_cases hc15 : r7 = true
     ·replace hF := bifT hc15 hF
      refine qD hc15 (t := 78) rfl (qa rfl (zl 0 0 h rfl (qa rfl ?_)))
      obtain ⟨r8, hr9, hF⟩ := qd hF
      refine qt r8 h call184 (qdw (h.old ha1) hr9) rfl rfl rfl rfl ?_
      intro w14 h
      exact qa rfl (zp3 rfl (qb (qx qc h hF ⟨rfl, trivial⟩)))
     replace hc15 := zb hc15
     replace hF := bifF hc15 hF
     exact qC hc15 (t := 78) rfl (zn3 rfl (zp2 rfl (qb (qx qc h hF ⟨rfl, trivial⟩))))
    replace hc14 := zb hc14
    replace hF := bifF hc14 hF
    exact qC hc14 (t := 74) rfl (zn2 rfl (zp2 rfl (zn3 rfl (zp2 rfl (qb (qx qc h hF ⟨rfl, trivial⟩))))))
   replace hc13 := zb hc13
   replace hF := bifF hc13 hF
   refine qC hc13 (t := 70) rfl (zn2 rfl (zp2 rfl (zn2 rfl (zp2 rfl (zn3 rfl ?_)))))
   exact zp2 rfl (qb (qx qc h hF ⟨rfl, trivial⟩))
  replace hc12 := zb hc12
  replace hF := bifF hc12 hF
  refine qC hc12 (t := 64) rfl (zn4 rfl (zp2 rfl (zn2 rfl (zp2 rfl (zn1 rfl ?_)))))
  exact zn1 rfl (zp2 rfl (zn3 rfl (zp2 rfl (qb (qx qc h hF ⟨rfl, trivial⟩)))))
 exact zKE (zSR (zp1 rfl (qb (qx qc h hF ⟨rfl, trivial⟩))))

def qgX (n : Nat) (c : qA) : Option Bool :=
 (qf1 n c.Name).bind fun r1 =>
 bif r1 then
  (qf7 n c.Pins).bind fun r2 =>
  bif r2 then
   (qd3 n c).bind fun r3 =>
   bif r3 then
    (qba n c.Leak 0 100000).bind fun r4 =>
    bif r4 then
     (qba n c.Energy 0 100000).bind fun r5 =>
     bif r5 then
      (qdH n c).bind fun r6 =>
      some r6
     else
      some false
    else
     some false
   else
    some false
  else
   some false
 else
  some false

theorem qkP {n : Nat} {w : World} {c : qA} {cs1 : List Value} (ha1 : GoT.R w (old w) c cs1) {r : Bool} (hF : qgX n c = some r) : RetV Tryz.prog 153 [GoT.v qA cs1] w r := by
 obtain ⟨p1, k1, p2, k2, p3, k3, rfl, s1, s2, s3⟩ := qS ha1
 refine qe Tryz.func153 rfl (m := 29) rfl rfl (fun h => ?_)
 rw [qgX] at hF
 refine zSR (qO h rfl rfl ?_)
 intro w1 bb1 h
 refine zp1 rfl (zNSR (zp1 rfl (zl 0 0 h rfl ?_)))
 obtain ⟨r1, hr1, hF⟩ := qd hF
 refine qt r1 h call170 (qis hr1) rfl rfl rfl rfl ?_
 intro w2 h
 refine zp1 rfl ?_
 by_cases hc1 : r1 = true
 ·replace hF := bifT hc1 hF
  refine qD hc1 (t := 6) rfl (qa rfl (zp1 rfl (qa rfl (zl 0 2 h rfl (qa rfl ?_)))))
  obtain ⟨r2, hr2, hF⟩ := qd hF
  refine qt r2 h call171 (qko ⟨_, _, rfl, (h.oldS s1)⟩ hr2) rfl rfl rfl rfl ?_
  intro w3 h
  refine zp2 rfl ?_
  by_cases hc2 : r2 = true
  ·replace hF := bifT hc2 hF
   refine qD hc2 (t := 11) rfl (qa rfl (zl 0 0 h rfl (qa rfl ?_)))
   obtain ⟨r3, hr3, hF⟩ := qd hF
   refine qt r3 h call172 (qiL (h.old ha1) hr3) rfl rfl rfl rfl ?_
   intro w4 h
   refine zp2 rfl ?_
   by_cases hc3 : r3 = true
   ·replace hF := bifT hc3 hF
    refine qD hc3 (t := 15) rfl (qa rfl (zp1 rfl (qa rfl (zl 0 5 h rfl (qa rfl ?_)))))
    obtain ⟨r4, hr4, hF⟩ := qd hF
    refine qt r4 h call100 (qa3 hr4) rfl rfl rfl rfl ?_
    intro w5 h
    refine zp2 rfl ?_
    by_cases hc4 : r4 = true
    ·replace hF := bifT hc4 hF
     refine qD hc4 (t := 20) rfl (qa rfl (zp1 rfl (qa rfl (zl 0 6 h rfl (qa rfl ?_)))))
     obtain ⟨r5, hr5, hF⟩ := qd hF
     refine qt r5 h call100 (qa3 hr5) rfl rfl rfl rfl ?_
     intro w6 h
     refine zp2 rfl ?_
     by_cases hc5 : r5 = true
     ·replace hF := bifT hc5 hF
      refine qD hc5 (t := 25) rfl (qa rfl (zl 0 0 h rfl (qa rfl ?_)))
      obtain ⟨r6, hr6, hF⟩ := qd hF
      refine qt r6 h call173 (qip (h.old ha1) hr6) rfl rfl rfl rfl ?_
      intro w7 h
      exact zp2 rfl (qb (qx qc h hF ⟨rfl, trivial⟩))
     replace hc5 := zb hc5
     replace hF := bifF hc5 hF
     exact qC hc5 (t := 25) rfl (zn2 rfl (zp2 rfl (qb (qx qc h hF ⟨rfl, trivial⟩))))
    replace hc4 := zb hc4
    replace hF := bifF hc4 hF
    exact qC hc4 (t := 20) rfl (zn3 rfl (zp2 rfl (zn2 rfl (zp2 rfl (qb (qx qc h hF ⟨rfl, trivial⟩))))))
   replace hc3 := zb hc3
   replace hF := bifF hc3 hF
   refine qC hc3 (t := 15) rfl (zn3 rfl (zp2 rfl (zn3 rfl (zp2 rfl (zn1 rfl ?_)))))
   exact zn1 rfl (zp2 rfl (qb (qx qc h hF ⟨rfl, trivial⟩)))
  replace hc2 := zb hc2
  replace hF := bifF hc2 hF
  refine qC hc2 (t := 11) rfl (zn2 rfl (zp2 rfl (zn3 rfl (zp2 rfl (zn2 rfl ?_)))))
  exact zn1 rfl (zp2 rfl (zn2 rfl (zp2 rfl (qb (qx qc h hF ⟨rfl, trivial⟩)))))
 replace hc1 := zb hc1
 replace hF := bifF hc1 hF
 refine qC hc1 (t := 6) rfl (zn3 rfl (zp2 rfl (zn2 rfl (zp2 rfl (zn2 rfl ?_)))))
 refine zn1 rfl (zp2 rfl (zn3 rfl (zp2 rfl (zn2 rfl (zp2 rfl ?_)))))
 exact qb (qx qc h hF ⟨rfl, trivial⟩)

def qbC (l : qn) : Nat → (List ByteArray) → Int → Option (Flow Bool ((List ByteArray) × Int))
 | 0, _, _ => none
 | n + 1, x1, i1 =>
  bif decide (i1 < (l.Cells.length : Int)) then
   (idx l.Cells i1).bind fun y1 =>
   (qgX n y1).bind fun r1 =>
   bif (!r1) then
    some (.ret false)
   else
    (appS x1 ([y1.Name] : List ByteArray)).bind fun x2 =>
    qbC l n x2 (W64 (i1 + 1))
  else
   some (.nxt (x1, i1))

def qe7 (n : Nat) (l : qn) : Option Bool :=
 (qbC l n ([] : List ByteArray) 0).bind fun o => match o with
 | .ret r => some r
 | .nxt (x1, _) =>
  bif decide ((l.Cells.length : Int) ≤ 8) then
   (qcX n x1).bind fun r2 =>
   some r2
  else
   some false

theorem qjr {n : Nat} {w : World} {l : qn} {cs1 : List Value} (ha1 : GoT.R w (old w) l cs1) {r : Bool} (hF : qe7 n l = some r) : RetV Tryz.prog 124 [GoT.v qn cs1] w r := by
 obtain ⟨p1, k1, rfl, s1⟩ := qbf ha1
 refine qe Tryz.func124 rfl (m := 30) rfl rfl (fun h => ?_)
 rw [qe7] at hF
 refine zSR (qO h rfl rfl ?_)
 intro w1 bb1 h
 refine zp1 rfl (zNSR (zp1 rfl (zNSSR (zp1 rfl (zl 0 0 h rfl (zp1 rfl ?_))))))
 refine zp1 rfl (qb ?_)
 replace h := h.nil (α := ByteArray)
 obtain ⟨o1, hF, hK1⟩ := qd hF
 refine qv (qR [(1, _), (3, _), (7, _), (8, _), (9, _)] ⟨rfl, rfl, rfl, rfl, rfl, trivial⟩ ?_)
 refine qG (fun m e w' => ∃ (S1 : Nat → Prop) (p2 : Option Addr) (ln1 : Nat) (k2 : Nat) (x1 : (List ByteArray)) (i1 : Int), qbC l m x1 i1 = some o1 ∧ e = [(1, .pointer (some ⟨bb1, 0, none⟩)), (3, .slice p2 ln1 k2), (7, .slice p1 l.Cells.length k1), (8, .int .i64 (l.Cells.length : Int)), (9, .int .i64 i1)] ∧ SH w w' [Ch.own S1 (x1 : List ByteArray) [.slice p2 ln1 k2], Ch.box bb1 [.slice p1 l.Cells.length k1] 41]) n ⟨_, _, _, _, _, _, hF, rfl, h⟩ ?_
 rintro m1 e1 w2 ⟨S1, p2, ln1, k2, x1, i1, hF, rfl, h⟩
 obtain rfl := (h.sl 0 rfl).2
 rcases m1 with _ | m1
 ·rw [qbC] at hF
  cases hF
 rw [qbC] at hF
 refine zSR (zp1 rfl (zNS ?_))
 refine qu rfl hF ?_ ?_ <;> intro hF
 ·refine zKSBSR ?_
  obtain ⟨y1, hy1, hF⟩ := qd hF
  have he1 := qf hy1
  obtain ⟨b1, o_1, q1, cs2, hp1, hq1, -, hr1, hc2⟩ := s1.at hy1
  obtain ⟨p3, k3, p4, k4, p5, k5, rfl, s2, s3, s4⟩ := qS hr1
  refine zxe hp1 hq1 he1 rfl (zc 0 (hc2.below h.below) rfl (qU qc h rfl rfl rfl ?_))
  intro w3 bb2 h
  refine zs 0 h rfl ?_
  intro w4 h
  replace h : SH _ _ [Ch.box bb2 [.string y1.Name, .int .i64 y1.Kind, .slice p3 y1.Pins.length k3, .slice p4 y1.Arcs.length k4, .slice p5 y1.Truth.length k5, .int .i64 y1.Leak, .int .i64 y1.Energy] 155, Ch.own S1 (x1 : List ByteArray) [.slice p2 x1.length k2], Ch.box bb1 [.slice p1 l.Cells.length k1] 41] := h
  refine zNSSR (zl 0 0 h rfl ?_)
  obtain ⟨r1, hr2, hF⟩ := qd hF
  refine qt r1 h call153 (qkP (qfW y1 (h.oldS s2) (h.oldS s3) (h.oldS s4)) hr2) rfl rfl rfl rfl ?_
  intro w5 h
  refine zp1 rfl (qb ?_)
  refine qu rfl hF ?_ ?_ <;> intro hF
  ·refine zSR (zp1 rfl (qb ?_))
   obtain rfl := qi hF; replace hF := hK1
   exact qx qc h hF ⟨rfl, trivial⟩
  refine qew (qB (zp2 rfl (zl 0 0 h rfl (qas qc [.tmp 18] _ ([y1.Name] : List ByteArray) h rfl rfl rfl rfl rfl rfl rfl rfl rfl ⟨rfl, trivial⟩ rfl ?_))))
  intro w6 p6 S2 h
  obtain ⟨x2, hx1, hF⟩ := qd hF
  obtain ⟨g1, hx1⟩ := qa2 hx1
  refine qdy qc 2 h rfl (h.sl 0 rfl).1 (h.sl 0 rfl).2 rfl rfl rfl rfl rfl rfl rfl rfl rfl g1 hx1 rfl ?_
  intro w7 p7 k6 S3 h
  refine zp1 rfl (zNER (zp2 rfl (qb ?_)))
  replace h := h.pick [2, 3] rfl
  exact qy m1 [(1, _), (3, _), (7, _), (8, _), (9, _)] (Nat.lt_succ_self m1) ⟨rfl, rfl, rfl, rfl, rfl, trivial⟩ ⟨_, _, _, _, _, _, hF, rfl, h⟩
 refine qH rfl ?_
 obtain rfl := qi hF; replace hF := hK1
 refine zSR (zp1 rfl (zl 1 0 h rfl (zp3 rfl ?_)))
 by_cases hc4 : (decide ((l.Cells.length : Int) ≤ 8)) = true
 ·replace hF := bifT hc4 hF
  refine qD hc4 (t := 26) rfl (qa rfl (zp1 rfl (qa rfl ?_)))
  obtain ⟨r2, hr3, hF⟩ := qd hF
  refine qt r2 h call154 (qel (h.own 0 rfl) hr3) rfl rfl rfl rfl ?_
  intro w8 h
  exact zp2 rfl (qb (qx qc h hF ⟨rfl, trivial⟩))
 replace hc4 := zb hc4
 replace hF := bifF hc4 hF
 exact qC hc4 (t := 26) rfl (zn2 rfl (zp2 rfl (qb (qx qc h hF ⟨rfl, trivial⟩))))

def qaD (d : qh) : Nat → (List ByteArray) → Int → Option ((List ByteArray) × Int)
 | 0, _, _ => none
 | n + 1, x3, i2 =>
  bif decide (i2 < (d.Ports.length : Int)) then
   (idx d.Ports i2).bind fun y2 =>
   (appS x3 ([y2.Name] : List ByteArray)).bind fun x4 =>
   qaD d n x4 (W64 (i2 + 1))
  else
   some (x3, i2)

def qaC (d : qh) : Nat → (List ByteArray) → Int → Option ((List ByteArray) × Int)
 | 0, _, _ => none
 | n + 1, x1, i1 =>
  bif decide (i1 < (d.Instances.length : Int)) then
   (idx d.Instances i1).bind fun y1 =>
   (appS x1 ([y1.Name] : List ByteArray)).bind fun x2 =>
   qaC d n x2 (W64 (i1 + 1))
  else
   some (x1, i1)

def qdb (n : Nat) (d : qh) : Option Bool :=
 (qaC d n ([] : List ByteArray) 0).bind fun o => match o with
 | (x1, _) =>
  (qaD d n ([] : List ByteArray) 0).bind fun o => match o with
  | (x3, _) =>
   bif decide ((x1.length : Int) ≤ 14) then
    bif decide ((d.Nets.length : Int) ≤ 30) then
     bif decide ((x3.length : Int) ≤ 8) then
      (qcX n x1).bind fun r1 =>
      bif r1 then
       (qcX n d.Nets).bind fun r2 =>
       bif r2 then
        (qcX n x3).bind fun r3 =>
        some r3
       else
        some false
      else
       some false
     else
      some false
    else
     some false
   else
    some false

theorem qh5 {n : Nat} {w : World} {d : qh} {cs1 : List Value} (ha1 : GoT.R w (old w) d cs1) {r : Bool} (hF : qdb n d = some r) : RetV Tryz.prog 125 [GoT.v qh cs1] w r := by
 obtain ⟨p1, k1, p2, k2, p3, k3, rfl, s1, s2, s3⟩ := qai ha1
 refine qe Tryz.func125 rfl (m := 62) rfl rfl (fun h => ?_)
 rw [qdb] at hF
 refine zSR (qO h rfl rfl ?_)
 intro w1 bb1 h
 refine zp1 rfl (zNSR (zp2 rfl (zNSSR (zp1 rfl (zl 0 0 h rfl ?_)))))
 refine zp2 rfl (qb ?_)
 replace h := h.nil (α := ByteArray)
 obtain ⟨o1, hF, hK1⟩ := qd hF
 refine qv (qR [(1, _), (3, _), (4, _), (10, _), (11, _), (12, _)] ⟨rfl, rfl, rfl, rfl, rfl, rfl, trivial⟩ ?_)
 refine qG (fun m e w' => ∃ (S1 : Nat → Prop) (p4 : Option Addr) (ln1 : Nat) (k4 : Nat) (x1 : (List ByteArray)) (i1 : Int), qaC d m x1 i1 = some o1 ∧ e = [(1, .pointer (some ⟨bb1, 0, none⟩)), (3, .slice p4 ln1 k4), (4, .slice none 0 0), (10, .slice p1 d.Instances.length k1), (11, .int .i64 (d.Instances.length : Int)), (12, .int .i64 i1)] ∧ SH w w' [Ch.own S1 (x1 : List ByteArray) [.slice p4 ln1 k4], Ch.box bb1 [.slice p1 d.Instances.length k1, .slice p2 d.Nets.length k2, .slice p3 d.Ports.length k3] 45]) n ⟨_, _, _, _, _, _, hF, rfl, h⟩ ?_
 rintro m1 e1 w2 ⟨S1, p4, ln1, k4, x1, i1, hF, rfl, h⟩
 obtain rfl := (h.sl 0 rfl).2
 rcases m1 with _ | m1
 ·rw [qaC] at hF
  cases hF
 rw [qaC] at hF
 refine zSR (zp1 rfl (zNS ?_))
 refine qu rfl hF ?_ ?_ <;> intro hF
 ·refine zKSBSR ?_
  obtain ⟨y1, hy1, hF⟩ := qd hF
  have he1 := qf hy1
  obtain ⟨b1, o_1, q1, cs2, hp1, hq1, -, hr1, hc2⟩ := s1.at hy1
  obtain ⟨p5, k5, rfl, s4⟩ := qT hr1
  refine zxe hp1 hq1 he1 rfl (zc 0 (hc2.below h.below) rfl (qU qc h rfl rfl rfl ?_))
  intro w3 bb2 h
  refine zs 0 h rfl ?_
  intro w4 h
  replace h : SH _ _ [Ch.box bb2 [.string y1.Name, .int .i64 y1.Cell, .slice p5 y1.Nets.length k5] 126, Ch.own S1 (x1 : List ByteArray) [.slice p4 x1.length k4], Ch.box bb1 [.slice p1 d.Instances.length k1, .slice p2 d.Nets.length k2, .slice p3 d.Ports.length k3] 45] := h
  refine qb (qB (zp2 rfl (zl 0 0 h rfl (qas qc [.tmp 18] _ ([y1.Name] : List ByteArray) h rfl rfl rfl rfl rfl rfl rfl rfl rfl ⟨rfl, trivial⟩ rfl ?_))))
  intro w5 p6 S2 h
  obtain ⟨x2, hx1, hF⟩ := qd hF
  obtain ⟨g1, hx1⟩ := qa2 hx1
  refine qdy qc 2 h rfl (h.sl 0 rfl).1 (h.sl 0 rfl).2 rfl rfl rfl rfl rfl rfl rfl rfl rfl g1 hx1 rfl ?_
  intro w6 p7 k6 S3 h
  refine zp1 rfl (zNER (zp2 rfl (qb ?_)))
  replace h := h.pick [2, 3] rfl
  exact qy m1 [(1, _), (3, _), (4, _), (10, _), (11, _), (12, _)] (Nat.lt_succ_self m1) ⟨rfl, rfl, rfl, rfl, rfl, rfl, trivial⟩ ⟨_, _, _, _, _, _, hF, rfl, h⟩
 refine qH rfl ?_
 obtain rfl := qi hF; replace hF := hK1
 refine zSSR (zp1 rfl (zl 1 2 h rfl (zp2 rfl (qb ?_))))
 replace h := h.nil (α := ByteArray)
 obtain ⟨o2, hF, hK2⟩ := qd hF
 refine qv (qR [(1, _), (3, _), (4, _), (23, _), (24, _), (25, _)] ⟨rfl, rfl, rfl, rfl, rfl, rfl, trivial⟩ ?_)
 refine qG (fun m e w' => ∃ (S4 : Nat → Prop) (p8 : Option Addr) (ln2 : Nat) (k7 : Nat) (x3 : (List ByteArray)) (i2 : Int), qaD d m x3 i2 = some o2 ∧ e = [(1, .pointer (some ⟨bb1, 0, none⟩)), (3, .slice p4 x1.length k4), (4, .slice p8 ln2 k7), (23, .slice p3 d.Ports.length k3), (24, .int .i64 (d.Ports.length : Int)), (25, .int .i64 i2)] ∧ SH w w' [Ch.own S4 (x3 : List ByteArray) [.slice p8 ln2 k7], Ch.own S1 (x1 : List ByteArray) [.slice p4 x1.length k4], Ch.box bb1 [.slice p1 d.Instances.length k1, .slice p2 d.Nets.length k2, .slice p3 d.Ports.length k3] 45]) n ⟨_, _, _, _, _, _, hF, rfl, h⟩ ?_
 rintro m2 e2 w7 ⟨S4, p8, ln2, k7, x3, i2, hF, rfl, h⟩
 obtain rfl := (h.sl 0 rfl).2
 rcases m2 with _ | m2
 ·rw [qaD] at hF
  cases hF
 rw [qaD] at hF
 refine zSR (zp1 rfl (zNS ?_))
 refine qu rfl hF ?_ ?_ <;> intro hF
 ·refine zKSBSR ?_
  obtain ⟨y2, hy2, hF⟩ := qd hF
  have he2 := qf hy2
  obtain ⟨b2, o_2, q2, cs3, hp2, hq2, -, hr2, hc4⟩ := s3.at hy2
  obtain rfl := qbc hr2
  refine zxe hp2 hq2 he2 rfl (zc 0 (hc4.below h.below) rfl (qU qc h rfl rfl rfl ?_))
  intro w8 bb3 h
  refine zs 0 h rfl ?_
  intro w9 h
  replace h : SH _ _ [Ch.box bb3 [.string y2.Name, .int .i64 y2.Dir, .int .i64 y2.Net] 148, Ch.own S4 (x3 : List ByteArray) [.slice p8 x3.length k7], Ch.own S1 (x1 : List ByteArray) [.slice p4 x1.length k4], Ch.box bb1 [.slice p1 d.Instances.length k1, .slice p2 d.Nets.length k2, .slice p3 d.Ports.length k3] 45] := h
  refine qb (qB (zp2 rfl (zl 0 0 h rfl (qas qc [.tmp 31] _ ([y2.Name] : List ByteArray) h rfl rfl rfl rfl rfl rfl rfl rfl rfl ⟨rfl, trivial⟩ rfl ?_))))
  intro w10 p9 S5 h
  obtain ⟨x4, hx2, hF⟩ := qd hF
  obtain ⟨g2, hx2⟩ := qa2 hx2
  refine qdy qc 2 h rfl (h.sl 0 rfl).1 (h.sl 0 rfl).2 rfl rfl rfl rfl rfl rfl rfl rfl rfl g2 hx2 rfl ?_
  intro w11 p10 k8 S6 h
  refine zp1 rfl (zNER (zp2 rfl (qb ?_)))
  replace h := h.pick [2, 3, 4] rfl
  exact qy m2 [(1, _), (3, _), (4, _), (23, _), (24, _), (25, _)] (Nat.lt_succ_self m2) ⟨rfl, rfl, rfl, rfl, rfl, rfl, trivial⟩ ⟨_, _, _, _, _, _, hF, rfl, h⟩
 refine qH rfl ?_
 obtain rfl := qi hF; replace hF := hK2
 refine zSR (zp4 rfl ?_)
 by_cases hc5 : (decide ((x1.length : Int) ≤ 14)) = true
 ·replace hF := bifT hc5 hF
  refine qD hc5 (t := 38) rfl (qa rfl (zp1 rfl (qa rfl (zl 2 1 h rfl (qa rfl (zp1 rfl (qa rfl (zp3 rfl ?_))))))))
  by_cases hc6 : (decide ((d.Nets.length : Int) ≤ 30)) = true
  ·replace hF := bifT hc6 hF
   refine qD hc6 (t := 44) rfl (qa rfl (zp1 rfl (qa rfl (zp1 rfl (qa rfl (zp3 rfl ?_))))))
   by_cases hc7 : (decide ((x3.length : Int) ≤ 8)) = true
   ·replace hF := bifT hc7 hF
    refine qD hc7 (t := 49) rfl (qa rfl (zp1 rfl (qa rfl ?_)))
    obtain ⟨r1, hr3, hF⟩ := qd hF
    refine qt r1 h call154 (qel (h.own 1 rfl) hr3) rfl rfl rfl rfl ?_
    intro w12 h
    refine zp2 rfl ?_
    by_cases hc8 : r1 = true
    ·replace hF := bifT hc8 hF
     refine qD hc8 (t := 53) rfl (qa rfl (zp1 rfl (qa rfl (zl 2 1 h rfl (qa rfl ?_)))))
     obtain ⟨r2, hr4, hF⟩ := qd hF
     refine qt r2 h call154 (qel ⟨_, _, rfl, (h.oldS s2)⟩ hr4) rfl rfl rfl rfl ?_
     intro w13 h
     refine zp2 rfl ?_
     by_cases hc9 : r2 = true
     ·replace hF := bifT hc9 hF
      refine qD hc9 (t := 58) rfl (qa rfl (zp1 rfl (qa rfl ?_)))
      obtain ⟨r3, hr5, hF⟩ := qd hF
      refine qt r3 h call154 (qel (h.own 0 rfl) hr5) rfl rfl rfl rfl ?_
      intro w14 h
      exact zp2 rfl (qb (qx qc h hF ⟨rfl, trivial⟩))
     replace hc9 := zb hc9
     replace hF := bifF hc9 hF
     exact qC hc9 (t := 58) rfl (zn2 rfl (zp2 rfl (qb (qx qc h hF ⟨rfl, trivial⟩))))
    replace hc8 := zb hc8
    replace hF := bifF hc8 hF
    exact qC hc8 (t := 53) rfl (zn3 rfl (zp2 rfl (zn2 rfl (zp2 rfl (qb (qx qc h hF ⟨rfl, trivial⟩))))))
   replace hc7 := zb hc7
   replace hF := bifF hc7 hF
   refine qC hc7 (t := 49) rfl (zn2 rfl (zp2 rfl (zn3 rfl (zp2 rfl (zn2 rfl ?_)))))
   exact zp2 rfl (qb (qx qc h hF ⟨rfl, trivial⟩))
  replace hc6 := zb hc6
  replace hF := bifF hc6 hF
  refine qC hc6 (t := 44) rfl (zn3 rfl (zp2 rfl (zn2 rfl (zp2 rfl (zn2 rfl ?_)))))
  exact zn1 rfl (zp2 rfl (zn2 rfl (zp2 rfl (qb (qx qc h hF ⟨rfl, trivial⟩)))))
 replace hc5 := zb hc5
 replace hF := bifF hc5 hF
 refine qC hc5 (t := 38) rfl (zn4 rfl (zp2 rfl (zn3 rfl (zp2 rfl ?_))))
 refine zn2 rfl (zp2 rfl (zn3 rfl (zp2 rfl (zn2 rfl (zp1 rfl ?_)))))
 exact zp1 rfl (qb (qx qc h hF ⟨rfl, trivial⟩))

def qdI (_ : Nat) (list : (List qA)) : Option Int :=
 some (list.length : Int)

theorem qhO {n : Nat} {w : World} {list : (List qA)} {cs1 : List Value} (ha1 : GoT.R w (old w) list cs1) {r : Int} (hF : qdI n list = some r) : RetV Tryz.prog 155 [GoT.v (List qA) cs1] w r := by
 obtain ⟨p1, k1, rfl, s1⟩ := ha1
 refine qe Tryz.func155 rfl (m := 5) rfl rfl (fun h => ?_)
 rw [qdI] at hF
 exact zSR (zp1 rfl (zNSR (zp3 rfl (qb (qaS qc h hF ⟨rfl, trivial⟩)))))

def qey (_ : Nat) (list : (List ByteArray)) : Option Int :=
 some (list.length : Int)

theorem qin {n : Nat} {w : World} {list : (List ByteArray)} {cs1 : List Value} (ha1 : GoT.R w (old w) list cs1) {r : Int} (hF : qey n list = some r) : RetV Tryz.prog 157 [GoT.v (List ByteArray) cs1] w r := by
 obtain ⟨p1, k1, rfl, s1⟩ := ha1
 refine qe Tryz.func157 rfl (m := 5) rfl rfl (fun h => ?_)
 rw [qey] at hF
 exact zSR (zp1 rfl (zNSR (zp3 rfl (qb (qaS qc h hF ⟨rfl, trivial⟩)))))

def qco (n : Nat) (d : qh) (net : Int) : Option Bool :=
 (qey n d.Nets).bind fun r1 =>
 (qba n net 0 (W64 (r1 - 1))).bind fun r2 =>
 some r2

theorem qeZ {n : Nat} {w : World} {d : qh} {net : Int} {cs1 : List Value} (ha1 : GoT.R w (old w) d cs1) {r : Bool} (hF : qco n d net = some r) : RetV Tryz.prog 127 [GoT.v qh cs1, .int .i64 net] w r := by
 obtain ⟨p1, k1, p2, k2, p3, k3, rfl, s1, s2, s3⟩ := qai ha1
 refine qe Tryz.func127 rfl (m := 11) rfl rfl (fun h => ?_)
 rw [qco] at hF
 refine zSR (qO h rfl rfl ?_)
 intro w1 bb1 h
 refine zp1 rfl (zNSR (zp2 rfl (zl 0 1 h rfl ?_)))
 obtain ⟨r1, hr1, hF⟩ := qd hF
 refine qW r1 h call157 (qin ⟨_, _, rfl, (h.oldS s2)⟩ hr1) rfl rfl rfl rfl ?_
 intro w2 h
 refine zp1 rfl ?_
 obtain ⟨r2, hr2, hF⟩ := qd hF
 refine qt r2 h call100 (qa3 hr2) rfl rfl rfl rfl ?_
 intro w3 h
 exact zp1 rfl (qb (qx qc h hF ⟨rfl, trivial⟩))

def qb5 (n : Nat) (net : Int) (v0 : qh) : Option Bool :=
 (qco n v0 net).bind fun r1 =>
 some (!r1)

theorem qg8 {n : Nat} {w : World} {net : Int} {v0 : qh} {p1 : Option Addr} (ha1 : GoT.R w (old w) (some v0) [.pointer p1]) {r : Bool} (hF : qb5 n net v0 = some r) : RetV Tryz.prog 156 [.int .i64 net, .pointer p1] w r := by
 obtain ⟨b1, o_1, cs1, rfl, -, hr1, hc1⟩ := PtR.get ha1 rfl
 obtain ⟨p2, k1, p3, k2, p4, k3, rfl, s1, s2, s3⟩ := qai hr1
 refine qe Tryz.func156 rfl (m := 8) rfl rfl (fun h => ?_)
 rw [qb5] at hF
 refine zSR (zp1 rfl (zNSR (zc 0 (hc1.below h.below) rfl (zp1 rfl ?_))))
 obtain ⟨r1, hr2, hF⟩ := qd hF
 refine qt r1 h call127 (qeZ (qaX v0 (h.oldS s1) (h.oldS s2) (h.oldS s3)) hr2) rfl rfl rfl rfl ?_
 intro w1 h
 exact zp2 rfl (qb (qx qc h hF ⟨rfl, trivial⟩))

def qI (s : (List Int)) (f_0 : qh) : Nat → Int → Option (Flow Int Int)
 | 0, _ => none
 | n + 1, i1 =>
  bif decide (i1 < (s.length : Int)) then
   (idx s i1).bind fun y1 =>
   (qb5 n y1 f_0).bind fun r1 =>
   bif r1 then
    some (.ret i1)
   else
    qI s f_0 n (W64 (i1 + 1))
  else
   some (.nxt i1)

def qar (n : Nat) (s : (List Int)) (f_0 : qh) : Option Int :=
 (qI s f_0 n 0).bind fun o => match o with
 | .ret r => some r
 | .nxt _ =>
  some (-1)

theorem qdA {n : Nat} {w : World} {s : (List Int)} {f_0 : qh} {cs1 : List Value} (ha1 : GoT.R w (old w) s cs1) {p2 : Option Addr} (ha2 : GoT.R w (old w) (some f_0) [.pointer p2]) {r : Int} (hF : qar n s f_0 = some r) : RetV Tryz.prog 159 [GoT.v (List Int) cs1, .func (.func 156) #[] #[.pointer p2]] w r := by
 obtain ⟨p1, k1, rfl, s1⟩ := ha1
 obtain ⟨b1, o_1, cs2, rfl, -, hr1, hc1⟩ := PtR.get ha2 rfl
 obtain ⟨p3, k2, p4, k3, p5, k4, rfl, s2, s3, s4⟩ := qai hr1
 refine qe Tryz.func159 rfl (m := 19) rfl rfl (fun h => ?_)
 rw [qar] at hF
 refine zSR (zp1 rfl (zNSSR (zp3 rfl (qb ?_))))
 obtain ⟨o1, hF, hK1⟩ := qd hF
 refine qv (qR [(0, _), (1, _), (7, _), (8, _)] ⟨rfl, rfl, rfl, rfl, trivial⟩ ?_)
 refine qG (fun m e w' => ∃ (i1 : Int), qI s f_0 m i1 = some o1 ∧ e = [(0, .slice p1 s.length k1), (1, .func (.func 156) #[] #[.pointer (some ⟨b1, o_1, none⟩)]), (7, .int .i64 (s.length : Int)), (8, .int .i64 i1)] ∧ SH w w' []) n ⟨_, hF, rfl, h⟩ ?_
 rintro m1 e1 w1 ⟨i1, hF, rfl, h⟩
 rcases m1 with _ | m1
 ·rw [qI] at hF
  cases hF
 rw [qI] at hF
 refine zSR (zp1 rfl (zNS ?_))
 refine qu rfl hF ?_ ?_ <;> intro hF
 ·refine zKSBSR (zp2 rfl (zNSR (zp2 rfl ?_)))
  refine zp1 rfl ?_
  obtain ⟨y1, hy1, hF⟩ := qd hF
  have he1 := qf hy1
  obtain ⟨b2, o_2, q1, cs3, hp1, hq1, -, hr2, hc3⟩ := s1.at hy1
  obtain rfl := hr2
  refine zxe hp1 hq1 he1 rfl (zc 0 (hc3.below h.below) rfl ?_)
  obtain ⟨r1, hr3, hF⟩ := qd hF
  refine qt r1 h call156 (qg8 (h.old ha2) hr3) rfl rfl rfl rfl ?_
  intro w2 h
  refine qb ?_
  refine qu rfl hF ?_ ?_ <;> intro hF
  ·refine zSR (zp2 rfl (qb ?_))
   obtain rfl := qi hF; replace hF := hK1
   exact qaS qc h hF ⟨rfl, trivial⟩
  exact zKER (zp2 rfl (qb (qy m1 [(0, _), (1, _), (7, _), (8, _)] (Nat.lt_succ_self m1) ⟨rfl, rfl, rfl, rfl, trivial⟩ ⟨_, hF, rfl, h⟩)))
 refine qH rfl ?_
 obtain rfl := qi hF; replace hF := hK1
 exact zSR (zp1 rfl (qb (qaS qc h hF ⟨rfl, trivial⟩)))

def qaj (n : Nat) (s : (List Int)) (f_0 : qh) : Option Bool :=
 (qar n s f_0).bind fun r1 =>
 some (decide (r1 ≥ 0))

theorem qdn {n : Nat} {w : World} {s : (List Int)} {f_0 : qh} {cs1 : List Value} (ha1 : GoT.R w (old w) s cs1) {p2 : Option Addr} (ha2 : GoT.R w (old w) (some f_0) [.pointer p2]) {r : Bool} (hF : qaj n s f_0 = some r) : RetV Tryz.prog 136 [GoT.v (List Int) cs1, .func (.func 156) #[] #[.pointer p2]] w r := by
 obtain ⟨p1, k1, rfl, s1⟩ := ha1
 obtain ⟨b1, o_1, cs2, rfl, -, hr1, hc1⟩ := PtR.get ha2 rfl
 obtain ⟨p3, k2, p4, k3, p5, k4, rfl, s2, s3, s4⟩ := qai hr1
 refine qe Tryz.func136 rfl (m := 9) rfl rfl (fun h => ?_)
 rw [qaj] at hF
 refine zSR (zp1 rfl (zNSR (zp2 rfl ?_)))
 obtain ⟨r1, hr2, hF⟩ := qd hF
 refine qW r1 h call159 (qdA ⟨_, _, rfl, (h.oldS s1)⟩ (h.old ha2) hr2) rfl rfl rfl rfl ?_
 intro w1 h
 exact zp2 rfl (qb (qx qc h hF ⟨rfl, trivial⟩))

def qct (n : Nat) (d : qh) (l : qn) (x : ql) : Option Bool :=
 (qdI n l.Cells).bind fun r1 =>
 (qba n x.Cell 0 (W64 (r1 - 1))).bind fun r2 =>
 bif r2 then
  (idx l.Cells x.Cell).bind fun y1 =>
  bif ((x.Nets.length : Int) == (y1.Pins.length : Int)) then
   (qaj n x.Nets d).bind fun r3 =>
   some (!r3)
  else
   some false
 else
  some false

theorem qhA {n : Nat} {w : World} {d : qh} {l : qn} {x : ql} {cs1 : List Value} (ha1 : GoT.R w (old w) d cs1) {cs2 : List Value} (ha2 : GoT.R w (old w) l cs2) {cs3 : List Value} (ha3 : GoT.R w (old w) x cs3) {r : Bool} (hF : qct n d l x = some r) : RetV Tryz.prog 126 [GoT.v qh cs1, GoT.v qn cs2, GoT.v ql cs3] w r := by
 obtain ⟨p1, k1, p2, k2, p3, k3, rfl, s1, s2, s3⟩ := qai ha1
 obtain ⟨p4, k4, rfl, s4⟩ := qbf ha2
 obtain ⟨p5, k5, rfl, s5⟩ := qT ha3
 refine qe Tryz.func126 rfl (m := 35) rfl rfl (fun h => ?_)
 rw [qct] at hF
 refine zSR (qO h rfl rfl ?_)
 intro w1 bb1 h
 refine qO h rfl rfl ?_
 intro w2 bb2 h
 refine qO h rfl rfl ?_
 intro w3 bb3 h
 refine zp1 rfl (zNS ?_)
 refine qcQ rfl (by kernel_rfl) ?_
 refine zd1 rfl ?_
 refine zdl 0 1 h rfl ?_
 refine zd1 rfl ?_
 refine zdl 1 0 h rfl ?_
 obtain ⟨r1, hr1, hF⟩ := qd hF
 refine qc8 r1 (vsI _) call155 (fun _ hb => qhO ⟨_, _, rfl, ((h.ext hb).oldS s4)⟩ hr1) rfl rfl rfl rfl ?_
 refine zd1 rfl ?_
 obtain ⟨r2, hr2, hF⟩ := qd hF
 refine qc8 r2 (vsB _) call100 (fun _ hb => qa3  hr2) rfl rfl rfl rfl ?_
 refine zd1 rfl ?_
 by_cases hc1 : r2 = true
 ·replace hF := bifT hc1 hF
  refine qc0 hc1 (t := 14) rfl (qg rfl (zd1 rfl (qg rfl ?_)))
  refine zdl 0 2 h rfl ?_
  refine qg rfl (zd1 rfl (qg rfl (zd1 rfl (qg rfl ?_))))
  refine zdl 1 0 h rfl ?_
  refine qg rfl (zd1 rfl (qg rfl ?_))
  refine zdl 0 1 h rfl ?_
  refine qg rfl ?_
  obtain ⟨y1, hy1, hF⟩ := qd hF
  have he1 := qf hy1
  obtain ⟨b1, o_1, q1, cs4, hp1, hq1, -, hr3, hc2⟩ := s4.at hy1
  obtain ⟨p6, k6, p7, k7, p8, k8, rfl, s6, s7, s8⟩ := qS hr3
  refine zdxe hp1 hq1 he1 rfl ?_
  refine qg rfl (zd1 rfl (qg rfl ?_))
  refine zdc 2 (hc2.below h.below) rfl ?_
  refine qg rfl (zd1 rfl (qg rfl (zd3 rfl ?_)))
  by_cases hc3 : ((x.Nets.length : Int) == (y1.Pins.length : Int)) = true
  ·replace hF := bifT hc3 hF
   refine qc0 hc3 (t := 28) rfl (qg rfl (zd1 rfl (qg rfl ?_)))
   refine zdl 0 2 h rfl ?_
   refine qg rfl (zd1 rfl (qg rfl ?_))
   obtain ⟨r3, hr4, hF⟩ := qd hF
   refine qc8 r3 (vsB _) call136 (fun _ hb => qdn ⟨_, _, rfl, ((h.ext hb).oldS s5)⟩ (qhr (x := d) 2 (h.ext hb) rfl ((h.ext hb).old ha1)) hr4) rfl rfl rfl rfl ?_
   refine qg rfl (zd3 rfl ?_)
   refine qbj (fun w4 hb => ?_)
   replace h := h.ext hb
   clear hb
   exact qx qc h hF ⟨rfl, trivial⟩
  replace hc3 := zb hc3
  replace hF := bifF hc3 hF
  refine qc9 hc3 (t := 28) rfl (qk rfl rfl rfl (qk rfl rfl rfl (qk rfl rfl rfl (qk rfl rfl rfl (qk rfl rfl rfl (zd2 rfl ?_))))))
  refine qbj (fun w5 hb => ?_)
  replace h := h.ext hb
  clear hb
  exact qx qc h hF ⟨rfl, trivial⟩
 replace hc1 := zb hc1
 replace hF := bifF hc1 hF
 refine qc9 hc1 (t := 14) rfl (qk rfl rfl rfl (qk rfl rfl rfl (qk rfl rfl rfl (qk rfl rfl rfl (qk rfl rfl rfl (qk rfl rfl rfl (qk rfl rfl rfl (qk rfl rfl rfl (qk rfl rfl rfl (qk rfl rfl rfl (qk rfl rfl rfl ?_)))))))))))
 refine qk rfl rfl rfl (zd2 rfl (qk rfl rfl rfl (qk rfl rfl rfl (qk rfl rfl rfl (qk rfl rfl rfl (qk rfl rfl rfl (zd2 rfl ?_)))))))
 refine qbj (fun w6 hb => ?_)
 replace h := h.ext hb
 clear hb
 exact qx qc h hF ⟨rfl, trivial⟩

def qfH (_ : Nat) (a_n : Int) : Option Bool :=
 some (a_n != 1)

theorem qjn {n : Nat} {w : World} {a_n : Int}  {r : Bool} (hF : qfH n a_n = some r) : RetV Tryz.prog 129 [.int .i64 a_n] w r := by
 refine qe Tryz.func129 rfl (m := 5) rfl rfl (fun h => ?_)
 rw [qfH] at hF
 exact zSR (zp1 rfl (zNSR (zp3 rfl (qb (qx qc h hF ⟨rfl, trivial⟩)))))

def qQ (s : (List Int)) : Nat → Int → Option (Flow Int Int)
 | 0, _ => none
 | n + 1, i1 =>
  bif decide (i1 < (s.length : Int)) then
   (idx s i1).bind fun y1 =>
   (qfH n y1).bind fun r1 =>
   bif r1 then
    some (.ret i1)
   else
    qQ s n (W64 (i1 + 1))
  else
   some (.nxt i1)

def qbb (n : Nat) (s : (List Int)) : Option Int :=
 (qQ s n 0).bind fun o => match o with
 | .ret r => some r
 | .nxt _ =>
  some (-1)

theorem qeS {n : Nat} {w : World} {s : (List Int)} {cs1 : List Value} (ha1 : GoT.R w (old w) s cs1) {r : Int} (hF : qbb n s = some r) : RetV Tryz.prog 158 [GoT.v (List Int) cs1, .func (.func 129) #[] #[]] w r := by
 obtain ⟨p1, k1, rfl, s1⟩ := ha1
 refine qe Tryz.func158 rfl (m := 19) rfl rfl (fun h => ?_)
 rw [qbb] at hF
 refine zSR (zp1 rfl (zNSSR (zp3 rfl (qb ?_))))
 obtain ⟨o1, hF, hK1⟩ := qd hF
 refine qv (qR [(0, _), (1, _), (7, _), (8, _)] ⟨rfl, rfl, rfl, rfl, trivial⟩ ?_)
 refine qG (fun m e w' => ∃ (i1 : Int), qQ s m i1 = some o1 ∧ e = [(0, .slice p1 s.length k1), (1, .func (.func 129) #[] #[]), (7, .int .i64 (s.length : Int)), (8, .int .i64 i1)] ∧ SH w w' []) n ⟨_, hF, rfl, h⟩ ?_
 rintro m1 e1 w1 ⟨i1, hF, rfl, h⟩
 rcases m1 with _ | m1
 ·rw [qQ] at hF
  cases hF
 rw [qQ] at hF
 refine zSR (zp1 rfl (zNS ?_))
 refine qu rfl hF ?_ ?_ <;> intro hF
 ·refine zKSBSR (zp2 rfl (zNSR (zp2 rfl ?_)))
  refine zp1 rfl ?_
  obtain ⟨y1, hy1, hF⟩ := qd hF
  have he1 := qf hy1
  obtain ⟨b1, o_1, q1, cs2, hp1, hq1, -, hr1, hc2⟩ := s1.at hy1
  obtain rfl := hr1
  refine zxe hp1 hq1 he1 rfl (zc 0 (hc2.below h.below) rfl ?_)
  obtain ⟨r1, hr2, hF⟩ := qd hF
  refine qt r1 h call129 (qjn hr2) rfl rfl rfl rfl ?_
  intro w2 h
  refine qb ?_
  refine qu rfl hF ?_ ?_ <;> intro hF
  ·refine zSR (zp2 rfl (qb ?_))
   obtain rfl := qi hF; replace hF := hK1
   exact qaS qc h hF ⟨rfl, trivial⟩
  exact zKER (zp2 rfl (qb (qy m1 [(0, _), (1, _), (7, _), (8, _)] (Nat.lt_succ_self m1) ⟨rfl, rfl, rfl, rfl, trivial⟩ ⟨_, hF, rfl, h⟩)))
 refine qH rfl ?_
 obtain rfl := qi hF; replace hF := hK1
 exact zSR (zp1 rfl (qb (qaS qc h hF ⟨rfl, trivial⟩)))

def qa1 (n : Nat) (s : (List Int)) : Option Bool :=
 (qbb n s).bind fun r1 =>
 some (decide (r1 ≥ 0))

theorem qeu {n : Nat} {w : World} {s : (List Int)} {cs1 : List Value} (ha1 : GoT.R w (old w) s cs1) {r : Bool} (hF : qa1 n s = some r) : RetV Tryz.prog 128 [GoT.v (List Int) cs1, .func (.func 129) #[] #[]] w r := by
 obtain ⟨p1, k1, rfl, s1⟩ := ha1
 refine qe Tryz.func128 rfl (m := 9) rfl rfl (fun h => ?_)
 rw [qa1] at hF
 refine zSR (zp1 rfl (zNSR (zp2 rfl ?_)))
 obtain ⟨r1, hr1, hF⟩ := qd hF
 refine qW r1 h call158 (qeS ⟨_, _, rfl, (h.oldS s1)⟩ hr1) rfl rfl rfl rfl ?_
 intro w1 h
 exact zp2 rfl (qb (qx qc h hF ⟨rfl, trivial⟩))

def qbk (a_1 : qh) : Nat → (List Int) → Int → Option (Flow Bool ((List Int) × Int))
 | 0, _, _ => none
 | n + 1, x3, i2 =>
  bif decide (i2 < (a_1.Ports.length : Int)) then
   (idx a_1.Ports i2).bind fun y5 =>
   (
    bif (y5.Dir != 1) then
     bif (y5.Dir != 2) then
      some true
     else
      (qco n a_1 y5.Net).bind fun r2 =>
      some (!r2)
    else
     (qco n a_1 y5.Net).bind fun r3 =>
     some (!r3)).bind fun b7 =>
   bif b7 then
    some (.ret false)
   else
    bif (y5.Dir == 1) then
     (idx x3 y5.Net).bind fun y6 =>
     (idx x3 y5.Net).bind fun _ =>
     qbk a_1 n (setS x3 y5.Net (W64 (y6 + 1))) (W64 (i2 + 1))
    else
     qbk a_1 n x3 (W64 (i2 + 1))
  else
   some (.nxt (x3, i2))

def qbV (a_0 : qn) (a_1 : qh) : Nat → (List Int) → Int → Option (Flow Bool ((List Int) × Int))
 | 0, _, _ => none
 | n + 1, x2, i1 =>
  bif decide (i1 < (a_1.Instances.length : Int)) then
   (idx a_1.Instances i1).bind fun y1 =>
   (qct n a_1 a_0 y1).bind fun r1 =>
   bif (!r1) then
    some (.ret false)
   else
    (idx y1.Nets (W64 ((y1.Nets.length : Int) - 1))).bind fun y2 =>
    (idx x2 y2).bind fun y3 =>
    (idx x2 y2).bind fun _ =>
    qbV a_0 a_1 n (setS x2 y2 (W64 (y3 + 1))) (W64 (i1 + 1))
  else
   some (.nxt (x2, i1))

def qfv (n : Nat) (a_0 : qn) (a_1 : qh) : Option Bool :=
 (
  (qe7 n a_0).bind fun r5 =>
  bif (!r5) then
   some true
  else
   (qdb n a_1).bind fun r6 =>
   some (!r6)).bind fun b1 =>
 bif b1 then
  some false
 else
  (mkS (a_1.Nets.length : Int) (0 : Int)).bind fun x1 =>
  (qbV a_0 a_1 n x1 0).bind fun o => match o with
  | .ret r => some r
  | .nxt (x2, _) =>
   (qbk a_1 n x2 0).bind fun o => match o with
   | .ret r => some r
   | .nxt (x3, _) =>
    (qa1 n x3).bind fun r4 =>
    some (!r4)

theorem qka {n : Nat} {w : World} {a_0 : qn} {a_1 : qh} {cs1 : List Value} (ha1 : GoT.R w (old w) a_0 cs1) {cs2 : List Value} (ha2 : GoT.R w (old w) a_1 cs2) {r : Bool} (hF : qfv n a_0 a_1 = some r) : RetV Tryz.prog 75 [GoT.v qn cs1, GoT.v qh cs2] w r := by
 obtain ⟨p1, k1, rfl, s1⟩ := qbf ha1
 obtain ⟨p2, k2, p3, k3, p4, k4, rfl, s2, s3, s4⟩ := qai ha2
 refine qe Tryz.func75 rfl (m := 84) rfl rfl (fun h => ?_)
 rw [qfv] at hF
 refine zSR (qO h rfl rfl ?_)
 intro w1 bb1 h
 refine qO h rfl rfl ?_
 intro w2 bb2 h
 refine zp1 rfl (zNSS ?_)
 obtain ⟨KF2, hKF2, o4, hF, hK4⟩ := bindE hF
 refine qeA (fun e w' => ∃ (b1 : Bool), KF2 b1 = some r ∧ e = [(2, .pointer (some ⟨bb1, 0, none⟩)), (3, .pointer (some ⟨bb2, 0, none⟩)), (17, .bool b1)] ∧ SH w w' [Ch.box bb2 [.slice p2 a_1.Instances.length k2, .slice p3 a_1.Nets.length k3, .slice p4 a_1.Ports.length k4] 45, Ch.box bb1 [.slice p1 a_0.Cells.length k1] 41]) ?_ ?_
 ·refine qB (zl 1 0 h rfl ?_)
  obtain ⟨r5, hr12, hF⟩ := qd hF
  refine qt r5 h call124 (qjr (h.old ha1) hr12) rfl rfl rfl rfl ?_
  intro w17 h
  refine zp2 rfl ?_
  by_cases hc16 : (!r5) = true
  ·replace hF := bifT hc16 hF
   refine qD hc16 (t := 13) rfl (zn3 rfl (zp1 rfl (qb ?_)))
   obtain rfl := qi hF
   exact qz [(2, _), (3, _), (17, _)] ⟨rfl, rfl, rfl, trivial⟩ ⟨_, hK4, rfl, h⟩
  replace hc16 := zb hc16
  replace hF := bifF hc16 hF
  refine qC hc16 (t := 13) rfl (qa rfl (zl 0 0 h rfl (qa rfl ?_)))
  obtain ⟨r6, hr13, hF⟩ := qd hF
  refine qt r6 h call125 (qh5 (h.old ha2) hr13) rfl rfl rfl rfl ?_
  intro w18 h
  refine qa rfl (zp2 rfl (qb ?_))
  obtain rfl := qi hF
  exact qz [(2, _), (3, _), (17, _)] ⟨rfl, rfl, rfl, trivial⟩ ⟨_, hK4, rfl, h⟩
 rintro e4 w19 ⟨b1, hF, rfl, h⟩
 subst hKF2
 refine qu rfl hF ?_ ?_ <;> intro hF
 ·exact zSR (zp1 rfl (qb (qx qc h hF ⟨rfl, trivial⟩)))
 refine zKSR (zp1 rfl (zl 0 1 h rfl (zp1 rfl ?_)))
 obtain ⟨x1, hx1, hF⟩ := qd hF
 obtain ⟨g1, g2, hx1⟩ := qcN hx1
 refine qdJ qc Int h rfl rfl rfl rfl rfl rfl rfl rfl rfl g1 g2 hx1 rfl ?_
 intro w3 S1 p5 h
 refine zp1 rfl (zNSSR (zp1 rfl (zl 1 0 h rfl (zp2 rfl (qb ?_)))))
 obtain ⟨o1, hF, hK1⟩ := qd hF
 refine qv (qR [(2, _), (3, _), (5, _), (23, _), (24, _), (25, _)] ⟨rfl, rfl, rfl, rfl, rfl, rfl, trivial⟩ ?_)
 refine qG (fun m e w' => ∃ (x2 : (List Int)) (i1 : Int), qbV a_0 a_1 m x2 i1 = some o1 ∧ e = [(2, .pointer (some ⟨bb1, 0, none⟩)), (3, .pointer (some ⟨bb2, 0, none⟩)), (5, .slice p5 x1.length x1.length), (23, .slice p2 a_1.Instances.length k2), (24, .int .i64 (a_1.Instances.length : Int)), (25, .int .i64 i1)] ∧ SH w w' [Ch.own S1 (x2 : List Int) [.slice p5 x1.length x1.length], Ch.box bb2 [.slice p2 a_1.Instances.length k2, .slice p3 a_1.Nets.length k3, .slice p4 a_1.Ports.length k4] 45, Ch.box bb1 [.slice p1 a_0.Cells.length k1] 41]) n ⟨_, _, hF, rfl, h⟩ ?_
 rintro m1 e1 w4 ⟨x2, i1, hF, rfl, h⟩
 rcases m1 with _ | m1
 ·rw [qbV] at hF
  cases hF
 rw [qbV] at hF
 refine zSR (zp1 rfl (zNS ?_))
 refine qu rfl hF ?_ ?_ <;> intro hF
 ·refine zKSBSR ?_
  obtain ⟨y1, hy1, hF⟩ := qd hF
  have he1 := qf hy1
  obtain ⟨b2, o_1, q1, cs3, hp1, hq1, -, hr1, hc3⟩ := s2.at hy1
  obtain ⟨p6, k5, rfl, s5⟩ := qT hr1
  refine zxe hp1 hq1 he1 rfl (zc 0 (hc3.below h.below) rfl (qU qc h rfl rfl rfl ?_))
  intro w5 bb3 h
  refine zs 0 h rfl ?_
  intro w6 h
  refine zNSSR (zl 2 0 h rfl (zl 3 0 h rfl (zl 0 0 h rfl ?_)))
  obtain ⟨r1, hr2, hF⟩ := qd hF
  refine qt r1 h call126 (qhA (h.old ha2) (h.old ha1) (qeM y1 (h.oldS s5)) hr2) rfl rfl rfl rfl ?_
  intro w7 h
  refine zp1 rfl (qb ?_)
  refine qu rfl hF ?_ ?_ <;> intro hF
  ·refine zSR (zp1 rfl (qb ?_))
   obtain rfl := qi hF; replace hF := hK1
   exact qx qc h hF ⟨rfl, trivial⟩
  refine qew (qB (zp2 rfl (zl 0 2 h rfl (zp1 rfl (zl 0 2 h rfl (zp2 rfl ?_))))))
  obtain ⟨y2, hy2, hF⟩ := qd hF
  have he2 := qf hy2
  obtain ⟨b3, o_2, q2, cs4, hp2, hq2, -, hr3, hc5⟩ := s5.at hy2
  obtain rfl := hr3
  refine zxe hp2 hq2 he2 rfl (zc 0 (hc5.below h.below) rfl ?_)
  obtain ⟨y3, hy3, hF⟩ := qd hF
  have he3 := qf hy3
  obtain ⟨b4, o_3, q3, cs5, hp3, hq3, -, hr4, hc6⟩ := (h.sl 1 rfl).1.at hy3
  obtain rfl := hr4
  refine zx hp3 hq3 ⟨he3.1, qah he3.2.1 (h.sl 1 rfl).2⟩ rfl (zc 0 hc6 rfl (zp1 rfl ?_))
  obtain ⟨y4, hy4, hF⟩ := qd hF
  have he4 := qf hy4
  obtain ⟨b5, o_4, q4, cs6, hp4, hq4, -, hr5, hc7⟩ := (h.sl 1 rfl).1.at hy4
  obtain rfl := hr5
  refine zx hp4 hq4 ⟨he4.1, qah he4.2.1 (h.sl 1 rfl).2⟩ rfl (qdt qc 1 0 (W64 (y3 + 1)) h rfl hy4 hp4 hq4 rfl hc7 rfl rfl rfl rfl rfl rfl rfl ?_)
  intro w8 h
  refine zNER (zp2 rfl (qb ?_))
  replace h := h.pick [1, 2, 3] rfl
  exact qy m1 [(2, _), (3, _), (5, _), (23, _), (24, _), (25, _)] (Nat.lt_succ_self m1) ⟨rfl, rfl, rfl, rfl, rfl, rfl, trivial⟩ ⟨_, _, hF, rfl, h⟩
 refine qH rfl ?_
 obtain rfl := qi hF; replace hF := hK1
 refine zSSR (zp1 rfl (zl 1 2 h rfl (zp2 rfl (qb ?_))))
 obtain ⟨o2, hF, hK2⟩ := qd hF
 refine qv ?_
 replace h := h.pick [0, 1] rfl
 refine qR [(3, _), (5, _), (49, _), (50, _), (51, _)] ⟨rfl, rfl, rfl, rfl, rfl, trivial⟩ ?_
 refine qG (fun m e w' => ∃ (x3 : (List Int)) (i2 : Int), qbk a_1 m x3 i2 = some o2 ∧ e = [(3, .pointer (some ⟨bb2, 0, none⟩)), (5, .slice p5 x1.length x1.length), (49, .slice p4 a_1.Ports.length k4), (50, .int .i64 (a_1.Ports.length : Int)), (51, .int .i64 i2)] ∧ SH w w' [Ch.own S1 (x3 : List Int) [.slice p5 x1.length x1.length], Ch.box bb2 [.slice p2 a_1.Instances.length k2, .slice p3 a_1.Nets.length k3, .slice p4 a_1.Ports.length k4] 45]) n ⟨_, _, hF, rfl, h⟩ ?_
 rintro m2 e2 w9 ⟨x3, i2, hF, rfl, h⟩
 rcases m2 with _ | m2
 ·rw [qbk] at hF
  cases hF
 rw [qbk] at hF
 refine zSR (zp1 rfl (zNS ?_))
 refine qu rfl hF ?_ ?_ <;> intro hF
 ·refine zKSBSR ?_
  obtain ⟨y5, hy5, hF⟩ := qd hF
  have he5 := qf hy5
  obtain ⟨b6, o_5, q5, cs7, hp5, hq5, -, hr6, hc9⟩ := s4.at hy5
  obtain rfl := qbc hr6
  refine zxe hp5 hq5 he5 rfl (zc 0 (hc9.below h.below) rfl (qU qc h rfl rfl rfl ?_))
  intro w10 bb4 h
  refine zs 0 h rfl ?_
  intro w11 h
  replace h : SH _ _ [Ch.box bb4 [.string y5.Name, .int .i64 y5.Dir, .int .i64 y5.Net] 148, Ch.own S1 (x3 : List Int) [.slice p5 x1.length x1.length], Ch.box bb2 [.slice p2 a_1.Instances.length k2, .slice p3 a_1.Nets.length k3, .slice p4 a_1.Ports.length k4] 45] := h
  refine zNSS ?_
  obtain ⟨KF1, hKF1, o3, hF, hK3⟩ := bindE hF
  refine qeA (fun e w' => ∃ (b7 : Bool), KF1 b7 = some o2 ∧ e = [(3, .pointer (some ⟨bb2, 0, none⟩)), (5, .slice p5 x1.length x1.length), (9, .pointer (some ⟨bb4, 0, none⟩)), (49, .slice p4 a_1.Ports.length k4), (50, .int .i64 (a_1.Ports.length : Int)), (51, .int .i64 i2), (69, .bool b7)] ∧ SH w w' [Ch.box bb4 [.string y5.Name, .int .i64 y5.Dir, .int .i64 y5.Net] 148, Ch.own S1 (x3 : List Int) [.slice p5 x1.length x1.length], Ch.box bb2 [.slice p2 a_1.Instances.length k2, .slice p3 a_1.Nets.length k3, .slice p4 a_1.Ports.length k4] 45]) ?_ ?_
  ·refine qB (zp1 rfl (zl 0 1 h rfl (zp2 rfl ?_)))
   by_cases hc14 : (y5.Dir != 1) = true
   ·replace hF := bifT hc14 hF
    refine qD hc14 (t := 58) rfl (qa rfl (zp1 rfl (qa rfl (zl 0 1 h rfl (qa rfl (zp3 rfl ?_))))))
    by_cases hc15 : (y5.Dir != 2) = true
    ·replace hF := bifT hc15 hF
     refine qD hc15 (t := 63) rfl (zn5 rfl (zp1 rfl (qb ?_)))
     obtain rfl := qi hF
     exact qz [(3, _), (5, _), (9, _), (49, _), (50, _), (51, _), (69, _)] ⟨rfl, rfl, rfl, rfl, rfl, rfl, rfl, trivial⟩ ⟨_, hK3, rfl, h⟩
    replace hc15 := zb hc15
    replace hF := bifF hc15 hF
    refine qC hc15 (t := 63) rfl (qa rfl (zl 2 0 h rfl (qa rfl (zp1 rfl (qa rfl (zl 0 2 h rfl (qa rfl ?_)))))))
    obtain ⟨r2, hr9, hF⟩ := qd hF
    refine qt r2 h call127 (qeZ (h.old ha2) hr9) rfl rfl rfl rfl ?_
    intro w13 h
    refine qa rfl (zp2 rfl (qb ?_))
    obtain rfl := qi hF
    exact qz [(3, _), (5, _), (9, _), (49, _), (50, _), (51, _), (69, _)] ⟨rfl, rfl, rfl, rfl, rfl, rfl, rfl, trivial⟩ ⟨_, hK3, rfl, h⟩
   replace hc14 := zb hc14
   replace hF := bifF hc14 hF
   refine qC hc14 (t := 58) rfl (zn3 rfl (zp2 rfl (qa rfl (zl 2 0 h rfl (qa rfl (zp1 rfl (qa rfl (zl 0 2 h rfl ?_))))))))
   refine qa rfl ?_
   obtain ⟨r3, hr10, hF⟩ := qd hF
   refine qt r3 h call127 (qeZ (h.old ha2) hr10) rfl rfl rfl rfl ?_
   intro w14 h
   refine qa rfl (zp2 rfl (qb ?_))
   obtain rfl := qi hF
   exact qz [(3, _), (5, _), (9, _), (49, _), (50, _), (51, _), (69, _)] ⟨rfl, rfl, rfl, rfl, rfl, rfl, rfl, trivial⟩ ⟨_, hK3, rfl, h⟩
  rintro e3 w15 ⟨b7, hF, rfl, h⟩
  subst hKF1
  refine qu rfl hF ?_ ?_ <;> intro hF
  ·refine zSR (zp1 rfl (qb ?_))
   obtain rfl := qi hF; replace hF := hK2
   exact qx qc h hF ⟨rfl, trivial⟩
  refine zKSR (zp1 rfl (zl 0 1 h rfl (zp1 rfl (qb ?_))))
  refine qu rfl hF ?_ ?_ <;> intro hF
  ·refine qB (zp2 rfl (zl 0 2 h rfl ?_))
   obtain ⟨y6, hy6, hF⟩ := qd hF
   have he6 := qf hy6
   obtain ⟨b8, o_6, q6, cs8, hp6, hq6, -, hr7, hc12⟩ := (h.sl 1 rfl).1.at hy6
   obtain rfl := hr7
   refine zx hp6 hq6 ⟨he6.1, qah he6.2.1 (h.sl 1 rfl).2⟩ rfl (zc 0 hc12 rfl (zp1 rfl ?_))
   obtain ⟨y7, hy7, hF⟩ := qd hF
   have he7 := qf hy7
   obtain ⟨b9, o_7, q7, cs9, hp7, hq7, -, hr8, hc13⟩ := (h.sl 1 rfl).1.at hy7
   obtain rfl := hr8
   refine zx hp7 hq7 ⟨he7.1, qah he7.2.1 (h.sl 1 rfl).2⟩ rfl (qdt qc 1 0 (W64 (y6 + 1)) h rfl hy7 hp7 hq7 rfl hc13 rfl rfl rfl rfl rfl rfl rfl ?_)
   intro w12 h
   refine zNER (zp2 rfl (qb ?_))
   replace h := h.pick [1, 2] rfl
   exact qy m2 [(3, _), (5, _), (49, _), (50, _), (51, _)] (Nat.lt_succ_self m2) ⟨rfl, rfl, rfl, rfl, rfl, trivial⟩ ⟨_, _, hF, rfl, h⟩
  refine zKER (zp2 rfl (qb ?_))
  replace h := h.pick [1, 2] rfl
  exact qy m2 [(3, _), (5, _), (49, _), (50, _), (51, _)] (Nat.lt_succ_self m2) ⟨rfl, rfl, rfl, rfl, rfl, trivial⟩ ⟨_, _, hF, rfl, h⟩
 refine qH rfl ?_
 obtain rfl := qi hF; replace hF := hK2
 refine zSR (zp1 rfl ?_)
 obtain ⟨r4, hr11, hF⟩ := qd hF
 refine qt r4 h call128 (qeu (h.own 0 rfl) hr11) rfl rfl rfl rfl ?_
 intro w16 h
 exact zp2 rfl (qb (qx qc h hF ⟨rfl, trivial⟩))

def qaT (i1 : Int) (y1 : ql) : Nat → (List Tplace) → Int → Option ((List Tplace) × Int)
 | 0, _, _ => none
 | n + 1, x2, i2 =>
  bif decide (i2 < (y1.Nets.length : Int)) then
   (idx y1.Nets i2).bind fun y2 =>
   (appS x2 ([(⟨i1, i2, y2, (i2 == (W64 ((y1.Nets.length : Int) - 1)))⟩ : Tplace)] : List Tplace)).bind fun x3 =>
   qaT i1 y1 n x3 (W64 (i2 + 1))
  else
   some (x2, i2)

def qaU (d : qh) : Nat → (List Tplace) → Int → Option ((List Tplace) × Int)
 | 0, _, _ => none
 | n + 1, x4, i3 =>
  bif decide (i3 < (d.Ports.length : Int)) then
   (idx d.Ports i3).bind fun y3 =>
   (appS x4 ([(⟨(-1), i3, y3.Net, (y3.Dir == 1)⟩ : Tplace)] : List Tplace)).bind fun x5 =>
   qaU d n x5 (W64 (i3 + 1))
  else
   some (x4, i3)

def qaV (d : qh) : Nat → (List Tplace) → Int → Option ((List Tplace) × Int)
 | 0, _, _ => none
 | n + 1, x1, i1 =>
  bif decide (i1 < (d.Instances.length : Int)) then
   (idx d.Instances i1).bind fun y1 =>
   (qaT i1 y1 n x1 0).bind fun o => match o with
   | (x2, _) =>
    qaV d n x2 (W64 (i1 + 1))
  else
   some (x1, i1)

def qbE (n : Nat) (d : qh) : Option (List Tplace) :=
 (qaV d n ([] : List Tplace) 0).bind fun o => match o with
 | (x1, _) =>
  (qaU d n x1 0).bind fun o => match o with
  | (x4, _) =>
   some x4

theorem qdK {n : Nat} {w : World} {d : qh} {cs1 : List Value} (ha1 : GoT.R w (old w) d cs1) {r : (List Tplace)} (hF : qbE n d = some r) : RetV Tryz.prog 76 [GoT.v qh cs1] w r := by
 obtain ⟨p1, k1, p2, k2, p3, k3, rfl, s1, s2, s3⟩ := qai ha1
 refine qe Tryz.func76 rfl (m := 61) rfl rfl (fun h => ?_)
 rw [qbE] at hF
 refine zSR (qO h rfl rfl ?_)
 intro w1 bb1 h
 refine zp1 rfl (zNSR (zp1 rfl (zNSSR (zp1 rfl (zl 0 0 h rfl (zp1 rfl ?_))))))
 refine zp1 rfl (qb ?_)
 replace h := h.nil (α := Tplace)
 obtain ⟨o1, hF, hK1⟩ := qd hF
 refine qv (qR [(1, _), (3, _), (11, _), (12, _), (13, _)] ⟨rfl, rfl, rfl, rfl, rfl, trivial⟩ ?_)
 refine qG (fun m e w' => ∃ (S1 : Nat → Prop) (p4 : Option Addr) (ln1 : Nat) (k4 : Nat) (x1 : (List Tplace)) (i1 : Int), qaV d m x1 i1 = some o1 ∧ e = [(1, .pointer (some ⟨bb1, 0, none⟩)), (3, .slice p4 ln1 k4), (11, .slice p1 d.Instances.length k1), (12, .int .i64 (d.Instances.length : Int)), (13, .int .i64 i1)] ∧ SH w w' [Ch.own S1 (x1 : List Tplace) [.slice p4 ln1 k4], Ch.box bb1 [.slice p1 d.Instances.length k1, .slice p2 d.Nets.length k2, .slice p3 d.Ports.length k3] 45]) n ⟨_, _, _, _, _, _, hF, rfl, h⟩ ?_
 rintro m1 e1 w2 ⟨S1, p4, ln1, k4, x1, i1, hF, rfl, h⟩
 obtain rfl := (h.sl 0 rfl).2
 rcases m1 with _ | m1
 ·rw [qaV] at hF
  cases hF
 rw [qaV] at hF
 refine zSR (zp1 rfl (zNS ?_))
 refine qu rfl hF ?_ ?_ <;> intro hF
 ·refine zKSBSR (zp1 rfl ?_)
  obtain ⟨y1, hy1, hF⟩ := qd hF
  have he1 := qf hy1
  obtain ⟨b1, o_1, q1, cs2, hp1, hq1, -, hr1, hc2⟩ := s1.at hy1
  obtain ⟨p5, k5, rfl, s4⟩ := qT hr1
  refine zxe hp1 hq1 he1 rfl (zc 0 (hc2.below h.below) rfl (qU qc h rfl rfl rfl ?_))
  intro w3 bb2 h
  refine zp1 rfl (zs 0 h rfl ?_)
  intro w4 h
  replace h : SH _ _ [Ch.box bb2 [.string y1.Name, .int .i64 y1.Cell, .slice p5 y1.Nets.length k5] 126, Ch.own S1 (x1 : List Tplace) [.slice p4 x1.length k4], Ch.box bb1 [.slice p1 d.Instances.length k1, .slice p2 d.Nets.length k2, .slice p3 d.Ports.length k3] 45] := h
  refine zNSR (zp1 rfl (zl 0 2 h rfl (zp2 rfl (qb ?_))))
  obtain ⟨o2, hF, hK2⟩ := qd hF
  refine qv (qR [(1, _), (3, _), (4, _), (5, _), (11, _), (12, _), (13, _), (19, _), (20, _), (21, _)] ⟨rfl, rfl, rfl, rfl, rfl, rfl, rfl, rfl, rfl, rfl, trivial⟩ ?_)
  refine qG (fun m e w' => ∃ (S2 : Nat → Prop) (p6 : Option Addr) (ln2 : Nat) (k6 : Nat) (x2 : (List Tplace)) (i2 : Int), qaT i1 y1 m x2 i2 = some o2 ∧ e = [(1, .pointer (some ⟨bb1, 0, none⟩)), (3, .slice p6 ln2 k6), (4, .int .i64 i1), (5, .pointer (some ⟨bb2, 0, none⟩)), (11, .slice p1 d.Instances.length k1), (12, .int .i64 (d.Instances.length : Int)), (13, .int .i64 i1), (19, .slice p5 y1.Nets.length k5), (20, .int .i64 (y1.Nets.length : Int)), (21, .int .i64 i2)] ∧ SH w w' [Ch.box bb2 [.string y1.Name, .int .i64 y1.Cell, .slice p5 y1.Nets.length k5] 126, Ch.own S2 (x2 : List Tplace) [.slice p6 ln2 k6], Ch.box bb1 [.slice p1 d.Instances.length k1, .slice p2 d.Nets.length k2, .slice p3 d.Ports.length k3] 45]) m1 ⟨_, _, _, _, _, _, hF, rfl, h⟩ ?_
  rintro m2 e2 w5 ⟨S2, p6, ln2, k6, x2, i2, hF, rfl, h⟩
  obtain rfl := (h.sl 1 rfl).2
  rcases m2 with _ | m2
  ·rw [qaT] at hF
   cases hF
  rw [qaT] at hF
  refine zSR (zp1 rfl (zNS ?_))
  refine qu rfl hF ?_ ?_ <;> intro hF
  ·refine zKSBSR (zp1 rfl ?_)
   obtain ⟨y2, hy2, hF⟩ := qd hF
   have he2 := qf hy2
   obtain ⟨b2, o_2, q2, cs3, hp2, hq2, -, hr2, hc4⟩ := s4.at hy2
   obtain rfl := hr2
   refine zxe hp2 hq2 he2 rfl (zc 0 (hc4.below h.below) rfl (zp2 rfl (qb (qB (zp5 rfl (zp1 rfl ?_))))))
   refine zl 0 2 h rfl (zp3 rfl (r_v (qgg qc [0, 1, 2, 3] [.tmp 27, .tmp 28, .tmp 29, .tmp 35] rfl rfl rfl rfl rfl rfl rfl rfl) rfl (qas qc [.tmp 36] _ ([(⟨i1, i2, y2, (i2 == (W64 ((y1.Nets.length : Int) - 1)))⟩ : Tplace)] : List Tplace) h rfl rfl rfl rfl rfl rfl rfl rfl rfl ⟨(qgu (⟨i1, i2, y2, (i2 == (W64 ((y1.Nets.length : Int) - 1)))⟩ : Tplace)), trivial⟩ rfl ?_)))
   intro w6 p7 S3 h
   obtain ⟨x3, hx1, hF⟩ := qd hF
   obtain ⟨g1, hx1⟩ := qa2 hx1
   refine qdy qc 2 h rfl (h.sl 0 rfl).1 (h.sl 0 rfl).2 rfl rfl rfl rfl rfl rfl rfl rfl rfl g1 hx1 rfl ?_
   intro w7 p8 k7 S4 h
   refine zp1 rfl (zNER (zp2 rfl (qb ?_)))
   replace h := h.pick [1, 2, 3] rfl
   exact qy m2 [(1, _), (3, _), (4, _), (5, _), (11, _), (12, _), (13, _), (19, _), (20, _), (21, _)] (Nat.lt_succ_self m2) ⟨rfl, rfl, rfl, rfl, rfl, rfl, rfl, rfl, rfl, rfl, trivial⟩ ⟨_, _, _, _, _, _, hF, rfl, h⟩
  refine qH rfl ?_
  obtain rfl := qi hF; replace hF := hK2
  refine qem (qB (zp2 rfl (qb ?_)))
  replace h := h.pick [1, 2] rfl
  exact qy m1 [(1, _), (3, _), (11, _), (12, _), (13, _)] (Nat.lt_succ_self m1) ⟨rfl, rfl, rfl, rfl, rfl, trivial⟩ ⟨_, _, _, _, _, _, hF, rfl, h⟩
 refine qH rfl ?_
 obtain rfl := qi hF; replace hF := hK1
 refine zSSR (zp1 rfl (zl 1 2 h rfl (zp2 rfl (qb ?_))))
 obtain ⟨o3, hF, hK3⟩ := qd hF
 refine qv ?_
 replace h := h.pick [0] rfl
 refine qR [(3, _), (42, _), (43, _), (44, _)] ⟨rfl, rfl, rfl, rfl, trivial⟩ ?_
 refine qG (fun m e w' => ∃ (S5 : Nat → Prop) (p9 : Option Addr) (ln3 : Nat) (k8 : Nat) (x4 : (List Tplace)) (i3 : Int), qaU d m x4 i3 = some o3 ∧ e = [(3, .slice p9 ln3 k8), (42, .slice p3 d.Ports.length k3), (43, .int .i64 (d.Ports.length : Int)), (44, .int .i64 i3)] ∧ SH w w' [Ch.own S5 (x4 : List Tplace) [.slice p9 ln3 k8]]) n ⟨_, _, _, _, _, _, hF, rfl, h⟩ ?_
 rintro m3 e3 w8 ⟨S5, p9, ln3, k8, x4, i3, hF, rfl, h⟩
 obtain rfl := (h.sl 0 rfl).2
 rcases m3 with _ | m3
 ·rw [qaU] at hF
  cases hF
 rw [qaU] at hF
 refine zSR (zp1 rfl (zNS ?_))
 refine qu rfl hF ?_ ?_ <;> intro hF
 ·refine zKSBSR (zp1 rfl ?_)
  obtain ⟨y3, hy3, hF⟩ := qd hF
  have he3 := qf hy3
  obtain ⟨b3, o_3, q3, cs4, hp3, hq3, -, hr3, hc6⟩ := s3.at hy3
  obtain rfl := qbc hr3
  refine zxe hp3 hq3 he3 rfl (zc 0 (hc6.below h.below) rfl (qU qc h rfl rfl rfl ?_))
  intro w9 bb3 h
  refine zp1 rfl (zs 0 h rfl ?_)
  intro w10 h
  refine qb (qB (zp3 rfl (zl 0 2 h rfl (zp1 rfl (zl 0 1 h rfl (zp1 rfl (r_v (qgg qc [0, 1, 2, 3] [.const (.int .i64 (-1)), .tmp 50, .tmp 52, .tmp 55] rfl rfl rfl rfl rfl rfl rfl rfl) rfl (qas qc [.tmp 56] _ ([(⟨(-1), i3, y3.Net, (y3.Dir == 1)⟩ : Tplace)] : List Tplace) h rfl rfl rfl rfl rfl rfl rfl rfl rfl ⟨(qgu (⟨(-1), i3, y3.Net, (y3.Dir == 1)⟩ : Tplace)), trivial⟩ rfl ?_))))))))
  intro w11 p10 S6 h
  obtain ⟨x5, hx2, hF⟩ := qd hF
  obtain ⟨g2, hx2⟩ := qa2 hx2
  refine qdy qc 2 h rfl (h.sl 0 rfl).1 (h.sl 0 rfl).2 rfl rfl rfl rfl rfl rfl rfl rfl rfl g2 hx2 rfl ?_
  intro w12 p11 k9 S7 h
  refine zp1 rfl (zNER (zp2 rfl (qb ?_)))
  replace h := h.pick [2] rfl
  exact qy m3 [(3, _), (42, _), (43, _), (44, _)] (Nat.lt_succ_self m3) ⟨rfl, rfl, rfl, rfl, trivial⟩ ⟨_, _, _, _, _, _, hF, rfl, h⟩
 refine qH rfl ?_
 obtain rfl := qi hF; replace hF := hK3
 refine zSR (zp2 rfl (qb ?_))
 obtain rfl := qi hF
 exact qaf qc (ρ := (List Tplace)) [GoT.v (List Tplace) [.slice p9 x4.length k8]] h ⟨rfl, trivial⟩ (PV.done h (qan (qax 0 h rfl)))

def qaH (a_w : qY) : Nat → Int → Option (Flow Bool Int)
 | 0, _ => none
 | n + 1, i1 =>
  bif decide (i1 < (a_w.Parent.length : Int)) then
   (idx a_w.Parent i1).bind fun y1 =>
   bif (i1 == 0) then
    bif (y1 != (-1)) then
     some (.ret false)
    else
     (idx a_w.Res 0).bind fun y2 =>
     bif (y2 != 0) then
      some (.ret false)
     else
      bif decide (i1 > 0) then
       (qba n y1 0 (W64 (i1 - 1))).bind fun r1 =>
       bif (!r1) then
        some (.ret false)
       else
        qaH a_w n (W64 (i1 + 1))
      else
       qaH a_w n (W64 (i1 + 1))
   else
    bif decide (i1 > 0) then
     (qba n y1 0 (W64 (i1 - 1))).bind fun r2 =>
     bif (!r2) then
      some (.ret false)
     else
      qaH a_w n (W64 (i1 + 1))
    else
     qaH a_w n (W64 (i1 + 1))
  else
   some (.nxt i1)

def qec (n : Nat) (a_w : qY) : Option Bool :=
 (qaH a_w n 0).bind fun o => match o with
 | .ret r => some r
 | .nxt _ =>
  some true

theorem qi3 {n : Nat} {w : World} {a_w : qY} {cs1 : List Value} (ha1 : GoT.R w (old w) a_w cs1) {r : Bool} (hF : qec n a_w = some r) : RetV Tryz.prog 130 [GoT.v qY cs1] w r := by
 obtain ⟨p1, k1, p2, k2, p3, k3, p4, k4, rfl, s1, s2, s3, s4⟩ := qbw ha1
 refine qe Tryz.func130 rfl (m := 38) rfl rfl (fun h => ?_)
 rw [qec] at hF
 refine zSR (qO h rfl rfl ?_)
 intro w1 bb1 h
 refine zp1 rfl (zNSSR (zp1 rfl (zl 0 0 h rfl (zp2 rfl (qb ?_)))))
 obtain ⟨o1, hF, hK1⟩ := qd hF
 refine qv (qR [(1, _), (6, _), (7, _), (8, _)] ⟨rfl, rfl, rfl, rfl, trivial⟩ ?_)
 refine qG (fun m e w' => ∃ (i1 : Int), qaH a_w m i1 = some o1 ∧ e = [(1, .pointer (some ⟨bb1, 0, none⟩)), (6, .slice p1 a_w.Parent.length k1), (7, .int .i64 (a_w.Parent.length : Int)), (8, .int .i64 i1)] ∧ SH w w' [Ch.box bb1 [.slice p1 a_w.Parent.length k1, .slice p2 a_w.Res.length k2, .slice p3 a_w.Cap.length k3, .slice p4 a_w.Sink.length k4] 117]) n ⟨_, hF, rfl, h⟩ ?_
 rintro m1 e1 w2 ⟨i1, hF, rfl, h⟩
 rcases m1 with _ | m1
 ·rw [qaH] at hF
  cases hF
 rw [qaH] at hF
 refine zSR (zp1 rfl (zNS ?_))
 refine qu rfl hF ?_ ?_ <;> intro hF
 ·refine zKSBSR (zp1 rfl ?_)
  obtain ⟨y1, hy1, hF⟩ := qd hF
  have he1 := qf hy1
  obtain ⟨b1, o_1, q1, cs2, hp1, hq1, -, hr1, hc2⟩ := s1.at hy1
  obtain rfl := hr1
  refine zxe hp1 hq1 he1 rfl (zc 0 (hc2.below h.below) rfl (zp2 rfl (zNSR (zp3 rfl ?_))))
  by_cases hc3 : (i1 == 0) = true
  ·replace hF := bifT hc3 hF
   refine qD hc3 (t := 15) rfl (qa rfl (zp1 rfl (qa rfl (zp1 rfl (qa rfl (zp1 rfl ?_))))))
   by_cases hc4 : (y1 != (-1)) = true
   ·replace hF := bifT hc4 hF
    refine qD hc4 (t := 18) rfl (zn5 rfl (qa rfl (zp3 rfl (zn2 rfl ?_))))
    refine zn5 rfl (zn2 rfl (zp1 rfl (qb (qeR rfl rfl (zSR ?_)))))
    refine zp1 rfl (qb ?_)
    obtain rfl := qi hF; replace hF := hK1
    exact qx qc h hF ⟨rfl, trivial⟩
   replace hc4 := zb hc4
   replace hF := bifF hc4 hF
   refine qC hc4 (t := 18) rfl (qa rfl (zp1 rfl (qa rfl (zl 0 1 h rfl (qa rfl ?_)))))
   obtain ⟨y2, hy2, hF⟩ := qd hF
   have he2 := qf hy2
   obtain ⟨b2, o_2, q2, cs3, hp2, hq2, -, hr2, hc5⟩ := s2.at hy2
   obtain rfl := hr2
   refine zxe hp2 hq2 he2 rfl (qa rfl (zc 0 (hc5.below h.below) rfl (qa rfl (zp1 rfl (qa rfl (zp3 rfl ?_))))))
   by_cases hc6 : (y2 != 0) = true
   ·replace hF := bifT hc6 hF
    refine qD hc6 (t := 26) rfl (zn5 rfl (zn4 rfl (zp1 rfl (qb ?_))))
    refine qeR rfl rfl (zSR (zp1 rfl (qb ?_)))
    obtain rfl := qi hF; replace hF := hK1
    exact qx qc h hF ⟨rfl, trivial⟩
   replace hc6 := zb hc6
   replace hF := bifF hc6 hF
   refine qC hc6 (t := 26) rfl (qa rfl (zp1 rfl (qa rfl (zp1 rfl (qa rfl (zp1 rfl ?_))))))
   by_cases hc7 : (decide (i1 > 0)) = true
   ·replace hF := bifT hc7 hF
    refine qD hc7 (t := 29) rfl (qa rfl (zp1 rfl (qa rfl (zp1 rfl (qa rfl (zp1 rfl (qa rfl ?_)))))))
    obtain ⟨r1, hr3, hF⟩ := qd hF
    refine qt r1 h call100 (qa3 hr3) rfl rfl rfl rfl ?_
    intro w3 h
    refine qa rfl (zp1 rfl (qa rfl (zp2 rfl (qb ?_))))
    refine qu rfl hF ?_ ?_ <;> intro hF
    ·refine zSR (zp1 rfl (qb ?_))
     obtain rfl := qi hF; replace hF := hK1
     exact qx qc h hF ⟨rfl, trivial⟩
    exact zKER (zp2 rfl (qb (qy m1 [(1, _), (6, _), (7, _), (8, _)] (Nat.lt_succ_self m1) ⟨rfl, rfl, rfl, rfl, trivial⟩ ⟨_, hF, rfl, h⟩)))
   replace hc7 := zb hc7
   replace hF := bifF hc7 hF
   refine qC hc7 (t := 29) rfl (zn5 rfl (qa rfl (zp2 rfl (qb (qev rfl rfl (qew ?_))))))
   exact qem (qB (zp2 rfl (qb (qy m1 [(1, _), (6, _), (7, _), (8, _)] (Nat.lt_succ_self m1) ⟨rfl, rfl, rfl, rfl, trivial⟩ ⟨_, hF, rfl, h⟩))))
  replace hc3 := zb hc3
  replace hF := bifF hc3 hF
  refine qC hc3 (t := 15) rfl (zn5 rfl (zn4 rfl (zp2 rfl ?_)))
  refine qa rfl (zp1 rfl (qa rfl (zp1 rfl (qa rfl (zp1 rfl ?_)))))
  by_cases hc9 : (decide (i1 > 0)) = true
  ·replace hF := bifT hc9 hF
   refine qD hc9 (t := 29) rfl (qa rfl (zp1 rfl (qa rfl (zp1 rfl (qa rfl (zp1 rfl (qa rfl ?_)))))))
   obtain ⟨r2, hr4, hF⟩ := qd hF
   refine qt r2 h call100 (qa3 hr4) rfl rfl rfl rfl ?_
   intro w4 h
   refine qa rfl (zp1 rfl (qa rfl (zp2 rfl (qb ?_))))
   refine qu rfl hF ?_ ?_ <;> intro hF
   ·refine zSR (zp1 rfl (qb ?_))
    obtain rfl := qi hF; replace hF := hK1
    exact qx qc h hF ⟨rfl, trivial⟩
   exact zKER (zp2 rfl (qb (qy m1 [(1, _), (6, _), (7, _), (8, _)] (Nat.lt_succ_self m1) ⟨rfl, rfl, rfl, rfl, trivial⟩ ⟨_, hF, rfl, h⟩)))
  replace hc9 := zb hc9
  replace hF := bifF hc9 hF
  refine qC hc9 (t := 29) rfl (zn5 rfl (qa rfl (zp2 rfl (qb (qev rfl rfl (qew ?_))))))
  exact qem (qB (zp2 rfl (qb (qy m1 [(1, _), (6, _), (7, _), (8, _)] (Nat.lt_succ_self m1) ⟨rfl, rfl, rfl, rfl, trivial⟩ ⟨_, hF, rfl, h⟩))))
 refine qH rfl ?_
 obtain rfl := qi hF; replace hF := hK1
 exact zSR (zp1 rfl (qb (qx qc h hF ⟨rfl, trivial⟩)))

def qgV (n : Nat) (a_w : qY) (sinks : Int) : Option Bool :=
 (qa5 n a_w.Parent).bind fun r1 =>
 (qba n r1 1 8).bind fun r2 =>
 bif r2 then
  (qa5 n a_w.Res).bind fun r3 =>
  bif (r3 == r1) then
   (qa5 n a_w.Cap).bind fun r4 =>
   bif (r4 == r1) then
    (qec n a_w).bind fun r5 =>
    bif r5 then
     (qb3 n a_w.Res 0 1000).bind fun r6 =>
     bif r6 then
      (qb3 n a_w.Cap 0 500).bind fun r7 =>
      bif r7 then
       (qa5 n a_w.Sink).bind fun r8 =>
       bif (r8 == sinks) then
        (qb3 n a_w.Sink 0 (W64 (r1 - 1))).bind fun r9 =>
        some r9
       else
        some false
      else
       some false
     else
      some false
    else
     some false
   else
    some false
  else
   some false
 else
  some false

theorem qkX {n : Nat} {w : World} {a_w : qY} {sinks : Int} {cs1 : List Value} (ha1 : GoT.R w (old w) a_w cs1) {r : Bool} (hF : qgV n a_w sinks = some r) : RetV Tryz.prog 77 [GoT.v qY cs1, .int .i64 sinks] w r := by
 obtain ⟨p1, k1, p2, k2, p3, k3, p4, k4, rfl, s1, s2, s3, s4⟩ := qbw ha1
 refine qe Tryz.func77 rfl (m := 53) rfl rfl (fun h => ?_)
 rw [qgV] at hF
 refine zSR (qO h rfl rfl ?_)
 intro w1 bb1 h
 refine zp1 rfl (zNSR (zp1 rfl (zl 0 0 h rfl ?_)))
 obtain ⟨r1, hr1, hF⟩ := qd hF
 refine qW r1 h call79 (qcd ⟨_, _, rfl, (h.oldS s1)⟩ hr1) rfl rfl rfl rfl ?_
 intro w2 h
 refine zp1 rfl (zNSR (zp1 rfl ?_))
 obtain ⟨r2, hr2, hF⟩ := qd hF
 refine qt r2 h call100 (qa3 hr2) rfl rfl rfl rfl ?_
 intro w3 h
 refine zp1 rfl ?_
 by_cases hc1 : r2 = true
 ·replace hF := bifT hc1 hF
  refine qD hc1 (t := 11) rfl (qa rfl (zp1 rfl (qa rfl (zl 0 1 h rfl (qa rfl ?_)))))
  obtain ⟨r3, hr3, hF⟩ := qd hF
  refine qW r3 h call79 (qcd ⟨_, _, rfl, (h.oldS s2)⟩ hr3) rfl rfl rfl rfl ?_
  intro w4 h
  refine qa rfl (zp1 rfl (qa rfl (zp3 rfl ?_)))
  by_cases hc2 : (r3 == r1) = true
  ·replace hF := bifT hc2 hF
   refine qD hc2 (t := 18) rfl (qa rfl (zp1 rfl (qa rfl (zl 0 2 h rfl (qa rfl ?_)))))
   obtain ⟨r4, hr4, hF⟩ := qd hF
   refine qW r4 h call79 (qcd ⟨_, _, rfl, (h.oldS s3)⟩ hr4) rfl rfl rfl rfl ?_
   intro w5 h
   refine qa rfl (zp1 rfl (qa rfl (zp3 rfl ?_)))
   by_cases hc3 : (r4 == r1) = true
   ·replace hF := bifT hc3 hF
    refine qD hc3 (t := 25) rfl (qa rfl (zl 0 0 h rfl (qa rfl ?_)))
    obtain ⟨r5, hr5, hF⟩ := qd hF
    refine qt r5 h call130 (qi3 (h.old ha1) hr5) rfl rfl rfl rfl ?_
    intro w6 h
    refine zp2 rfl ?_
    by_cases hc4 : r5 = true
    ·replace hF := bifT hc4 hF
     refine qD hc4 (t := 29) rfl (qa rfl (zp1 rfl (qa rfl (zl 0 1 h rfl (qa rfl ?_)))))
     obtain ⟨r6, hr6, hF⟩ := qd hF
     refine qt r6 h call82 (qdd ⟨_, _, rfl, (h.oldS s2)⟩ hr6) rfl rfl rfl rfl ?_
     intro w7 h
     refine zp2 rfl ?_
     by_cases hc5 : r6 = true
     ·replace hF := bifT hc5 hF
      refine qD hc5 (t := 34) rfl (qa rfl (zp1 rfl (qa rfl (zl 0 2 h rfl (qa rfl ?_)))))
      obtain ⟨r7, hr7, hF⟩ := qd hF
      refine qt r7 h call82 (qdd ⟨_, _, rfl, (h.oldS s3)⟩ hr7) rfl rfl rfl rfl ?_
      intro w8 h
      refine zp2 rfl ?_
      by_cases hc6 : r7 = true
      ·replace hF := bifT hc6 hF
       refine qD hc6 (t := 39) rfl (qa rfl (zp1 rfl (qa rfl (zl 0 3 h rfl (qa rfl ?_)))))
       obtain ⟨r8, hr8, hF⟩ := qd hF
       refine qW r8 h call79 (qcd ⟨_, _, rfl, (h.oldS s4)⟩ hr8) rfl rfl rfl rfl ?_
       intro w9 h
       refine qa rfl (zp1 rfl (qa rfl (zp3 rfl ?_)))
       by_cases hc7 : (r8 == sinks) = true
       ·replace hF := bifT hc7 hF
        refine qD hc7 (t := 46) rfl (qa rfl (zp1 rfl (qa rfl (zl 0 3 h rfl (qa rfl (zp1 rfl (qa rfl (zp1 rfl (qa rfl ?_)))))))))
        obtain ⟨r9, hr9, hF⟩ := qd hF
        refine qt r9 h call82 (qdd ⟨_, _, rfl, (h.oldS s4)⟩ hr9) rfl rfl rfl rfl ?_
        intro w10 h
        exact zp2 rfl (qb (qx qc h hF ⟨rfl, trivial⟩))
       replace hc7 := zb hc7
       replace hF := bifF hc7 hF
       exact qC hc7 (t := 46) rfl (zn5 rfl (zp2 rfl (qb (qx qc h hF ⟨rfl, trivial⟩))))
      replace hc6 := zb hc6
      replace hF := bifF hc6 hF
      refine qC hc6 (t := 39) rfl (zn5 rfl (zp2 rfl (zn4 rfl ?_)))
      exact zn1 rfl (zp2 rfl (qb (qx qc h hF ⟨rfl, trivial⟩)))
     replace hc5 := zb hc5
     replace hF := bifF hc5 hF
     refine qC hc5 (t := 34) rfl (zn3 rfl (zp2 rfl (zn5 rfl (zp1 rfl ?_))))
     exact zp1 rfl (zn5 rfl (zp2 rfl (qb (qx qc h hF ⟨rfl, trivial⟩))))
    replace hc4 := zb hc4
    replace hF := bifF hc4 hF
    refine qC hc4 (t := 29) rfl (zn3 rfl (zp2 rfl (zn3 rfl (zp2 rfl (zn1 rfl ?_)))))
    refine zn4 rfl (zp2 rfl (zn5 rfl (zp1 rfl ?_)))
    exact zp1 rfl (qb (qx qc h hF ⟨rfl, trivial⟩))
   replace hc3 := zb hc3
   replace hF := bifF hc3 hF
   refine qC hc3 (t := 25) rfl (zn2 rfl (zp2 rfl (zn3 rfl (zp2 rfl (zn2 rfl ?_)))))
   refine zn1 rfl (zp2 rfl (zn5 rfl (zp2 rfl (zn2 rfl ?_))))
   exact zn3 rfl (zp2 rfl (qb (qx qc h hF ⟨rfl, trivial⟩)))
  replace hc2 := zb hc2
  replace hF := bifF hc2 hF
  refine qC hc2 (t := 18) rfl (zn5 rfl (zp2 rfl (zn2 rfl (zp2 rfl ?_))))
  refine zn3 rfl (zp2 rfl (zn3 rfl (zp2 rfl (zn2 rfl ?_))))
  refine zn3 rfl (zp2 rfl (zn5 rfl (zp2 rfl ?_)))
  exact qb (qx qc h hF ⟨rfl, trivial⟩)
 replace hc1 := zb hc1
 replace hF := bifF hc1 hF
 refine qC hc1 (t := 11) rfl (zn5 rfl (zp2 rfl (zn4 rfl ?_)))
 refine zn1 rfl (zp2 rfl (zn2 rfl (zp2 rfl (zn3 rfl (zp2 rfl ?_)))))
 refine zn3 rfl (zp2 rfl (zn5 rfl (zp2 rfl ?_)))
 exact zn5 rfl (zp2 rfl (qb (qx qc h hF ⟨rfl, trivial⟩)))

def qcK (b : qw) (x2 : (List Int)) : Nat → Int → Option (Flow Bool Int)
 | 0, _ => none
 | n + 1, i2 =>
  bif decide (i2 < (b.Wires.length : Int)) then
   (idx b.Wires i2).bind fun y4 =>
   (idx x2 i2).bind fun y5 =>
   (qgV n y4 y5).bind fun r2 =>
   bif (!r2) then
    some (.ret false)
   else
    qcK b x2 n (W64 (i2 + 1))
  else
   some (.nxt i2)

def qbK (r1 : (List Tplace)) : Nat → (List Int) → Int → Option ((List Int) × Int)
 | 0, _, _ => none
 | n + 1, x2, i1 =>
  bif decide (i1 < (r1.length : Int)) then
   (idx r1 i1).bind fun y1 =>
   bif (!y1.drives) then
    (idx x2 y1.net).bind fun y2 =>
    (idx x2 y1.net).bind fun _ =>
    qbK r1 n (setS x2 y1.net (W64 (y2 + 1))) (W64 (i1 + 1))
   else
    qbK r1 n x2 (W64 (i1 + 1))
  else
   some (x2, i1)

def qf6 (n : Nat) (b : qw) : Option Bool :=
 (
  (qfv n (⟨b.Library.Cells⟩ : qn) (⟨b.Design.Instances, b.Design.Nets, b.Design.Ports⟩ : qh)).bind fun r3 =>
  bif (!r3) then
   some true
  else
   some ((b.Wires.length : Int) != (b.Design.Nets.length : Int))).bind fun b1 =>
 bif b1 then
  some false
 else
  (mkS (b.Wires.length : Int) (0 : Int)).bind fun x1 =>
  (qbE n (⟨b.Design.Instances, b.Design.Nets, b.Design.Ports⟩ : qh)).bind fun r1 =>
  (qbK r1 n x1 0).bind fun o => match o with
  | (x2, _) =>
   (qcK b x2 n 0).bind fun o => match o with
   | .ret r => some r
   | .nxt _ =>
    some true

theorem qkB {n : Nat} {w : World} {b : qw} {cs1 : List Value} (ha1 : GoT.R w (old w) b cs1) {r : Bool} (hF : qf6 n b = some r) : RetV Tryz.prog 39 [GoT.v qw cs1] w r := by
 obtain ⟨p1, k1, p2, k2, p3, k3, p4, k4, p5, k5, rfl, s1, s2, s3, s4, s5⟩ := qaw ha1
 refine qe Tryz.func39 rfl (m := 63) rfl rfl (fun h => ?_)
 rw [qf6] at hF
 refine zSR (qO h rfl rfl ?_)
 intro w1 bb1 h
 refine zp1 rfl (zNSS ?_)
 obtain ⟨KF1, hKF1, o3, hF, hK3⟩ := bindE hF
 refine qeA (fun e w' => ∃ (b1 : Bool), KF1 b1 = some r ∧ e = [(1, .pointer (some ⟨bb1, 0, none⟩)), (23, .bool b1)] ∧ SH w w' [Ch.box bb1 [.slice p1 b.Library.Cells.length k1, .slice p2 b.Design.Instances.length k2, .slice p3 b.Design.Nets.length k3, .slice p4 b.Design.Ports.length k4, .slice p5 b.Wires.length k5] 48]) ?_ ?_
 ·refine qB (zp1 rfl (zl 0 0 h rfl (zp1 rfl (zl 0 1 h rfl ?_))))
  obtain ⟨r3, hr8, hF⟩ := qd hF
  refine qt r3 h call75 (qka (qcW (⟨b.Library.Cells⟩ : qn) (h.oldS s1)) (qaX (⟨b.Design.Instances, b.Design.Nets, b.Design.Ports⟩ : qh) (h.oldS s2) (h.oldS s3) (h.oldS s4)) hr8) rfl rfl rfl rfl ?_
  intro w12 h
  refine zp2 rfl ?_
  by_cases hc11 : (!r3) = true
  ·replace hF := bifT hc11 hF
   refine qD hc11 (t := 14) rfl (zn5 rfl (zn3 rfl (zp1 rfl (qb ?_))))
   obtain rfl := qi hF
   exact qz [(1, _), (23, _)] ⟨rfl, rfl, trivial⟩ ⟨_, hK3, rfl, h⟩
  replace hc11 := zb hc11
  replace hF := bifF hc11 hF
  refine qC hc11 (t := 14) rfl (qa rfl (zp1 rfl (qa rfl (zl 0 4 h rfl (qa rfl (zp1 rfl (qa rfl (zp1 rfl (qa rfl (zp1 rfl (qa rfl ?_)))))))))))
  refine zl 0 2 h rfl (qa rfl (zp1 rfl (qa rfl (zp2 rfl (qb ?_)))))
  obtain rfl := qi hF
  exact qz [(1, _), (23, _)] ⟨rfl, rfl, trivial⟩ ⟨_, hK3, rfl, h⟩
 rintro e3 w13 ⟨b1, hF, rfl, h⟩
 subst hKF1
 refine qu rfl hF ?_ ?_ <;> intro hF
 ·exact zSR (zp1 rfl (qb (qx qc h hF ⟨rfl, trivial⟩)))
 refine zKSR (zp1 rfl (zl 0 4 h rfl (zp1 rfl ?_)))
 obtain ⟨x1, hx1, hF⟩ := qd hF
 obtain ⟨g1, g2, hx1⟩ := qcN hx1
 refine qdJ qc Int h rfl rfl rfl rfl rfl rfl rfl rfl rfl g1 g2 hx1 rfl ?_
 intro w2 S1 p6 h
 refine zp1 rfl (zNSSR (zp1 rfl (zl 1 1 h rfl ?_)))
 obtain ⟨r1, hr1, hF⟩ := qd hF
 refine qav r1 h call76 (qdK (qaX (⟨b.Design.Instances, b.Design.Nets, b.Design.Ports⟩ : qh) (h.oldS s2) (h.oldS s3) (h.oldS s4)) hr1) rfl rfl rfl rfl ?_
 intro w3 S2 p7 k6 h
 refine zp2 rfl (qb ?_)
 obtain ⟨o1, hF, hK1⟩ := qd hF
 refine qv (qR [(1, _), (3, _), (30, _), (31, _), (32, _)] ⟨rfl, rfl, rfl, rfl, rfl, trivial⟩ ?_)
 refine qG (fun m e w' => ∃ (x2 : (List Int)) (i1 : Int), qbK r1 m x2 i1 = some o1 ∧ e = [(1, .pointer (some ⟨bb1, 0, none⟩)), (3, .slice p6 x1.length x1.length), (30, .slice p7 r1.length k6), (31, .int .i64 (r1.length : Int)), (32, .int .i64 i1)] ∧ SH w w' [Ch.own S2 (r1 : List Tplace) [.slice p7 r1.length k6], Ch.own S1 (x2 : List Int) [.slice p6 x1.length x1.length], Ch.box bb1 [.slice p1 b.Library.Cells.length k1, .slice p2 b.Design.Instances.length k2, .slice p3 b.Design.Nets.length k3, .slice p4 b.Design.Ports.length k4, .slice p5 b.Wires.length k5] 48]) n ⟨_, _, hF, rfl, h⟩ ?_
 rintro m1 e1 w4 ⟨x2, i1, hF, rfl, h⟩
 rcases m1 with _ | m1
 ·rw [qbK] at hF
  cases hF
 rw [qbK] at hF
 refine zSR (zp1 rfl (zNS ?_))
 refine qu rfl hF ?_ ?_ <;> intro hF
 ·refine zKSBSR ?_
  obtain ⟨y1, hy1, hF⟩ := qd hF
  have he1 := qf hy1
  obtain ⟨b2, o_1, q1, cs2, hp1, hq1, -, hr2, hc3⟩ := (h.sl 0 rfl).1.at hy1
  obtain rfl := qc6 hr2
  refine zx hp1 hq1 ⟨he1.1, qah he1.2.1 (h.sl 0 rfl).2⟩ rfl (zc 0 hc3 rfl (qU qc h rfl rfl rfl ?_))
  intro w5 bb2 h
  refine zs 0 h rfl ?_
  intro w6 h
  refine zNSR (zp1 rfl (zl 0 3 h rfl (zp1 rfl (qb ?_))))
  refine qu rfl hF ?_ ?_ <;> intro hF
  ·refine qB (zp2 rfl (zl 0 2 h rfl ?_))
   obtain ⟨y2, hy2, hF⟩ := qd hF
   have he2 := qf hy2
   obtain ⟨b3, o_2, q2, cs3, hp2, hq2, -, hr3, hc5⟩ := (h.sl 2 rfl).1.at hy2
   obtain rfl := hr3
   refine zx hp2 hq2 ⟨he2.1, qah he2.2.1 (h.sl 2 rfl).2⟩ rfl (zc 0 hc5 rfl (zp1 rfl ?_))
   obtain ⟨y3, hy3, hF⟩ := qd hF
   have he3 := qf hy3
   obtain ⟨b4, o_3, q3, cs4, hp3, hq3, -, hr4, hc6⟩ := (h.sl 2 rfl).1.at hy3
   obtain rfl := hr4
   refine zx hp3 hq3 ⟨he3.1, qah he3.2.1 (h.sl 2 rfl).2⟩ rfl (qdt qc 2 0 (W64 (y2 + 1)) h rfl hy3 hp3 hq3 rfl hc6 rfl rfl rfl rfl rfl rfl rfl ?_)
   intro w7 h
   refine zNER (zp2 rfl (qb ?_))
   replace h := h.pick [1, 2, 3] rfl
   exact qy m1 [(1, _), (3, _), (30, _), (31, _), (32, _)] (Nat.lt_succ_self m1) ⟨rfl, rfl, rfl, rfl, rfl, trivial⟩ ⟨_, _, hF, rfl, h⟩
  refine zKER (zp2 rfl (qb ?_))
  replace h := h.pick [1, 2, 3] rfl
  exact qy m1 [(1, _), (3, _), (30, _), (31, _), (32, _)] (Nat.lt_succ_self m1) ⟨rfl, rfl, rfl, rfl, rfl, trivial⟩ ⟨_, _, hF, rfl, h⟩
 refine qH rfl ?_
 obtain rfl := qi hF; replace hF := hK1
 refine zSSR (zp1 rfl (zl 2 4 h rfl (zp2 rfl (qb ?_))))
 obtain ⟨o2, hF, hK2⟩ := qd hF
 refine qv ?_
 replace h := h.pick [1] rfl
 refine qR [(3, _), (48, _), (49, _), (50, _)] ⟨rfl, rfl, rfl, rfl, trivial⟩ ?_
 refine qG (fun m e w' => ∃ (i2 : Int), qcK b x2 m i2 = some o2 ∧ e = [(3, .slice p6 x1.length x1.length), (48, .slice p5 b.Wires.length k5), (49, .int .i64 (b.Wires.length : Int)), (50, .int .i64 i2)] ∧ SH w w' [Ch.own S1 (x2 : List Int) [.slice p6 x1.length x1.length]]) n ⟨_, hF, rfl, h⟩ ?_
 rintro m2 e2 w8 ⟨i2, hF, rfl, h⟩
 rcases m2 with _ | m2
 ·rw [qcK] at hF
  cases hF
 rw [qcK] at hF
 refine zSR (zp1 rfl (zNS ?_))
 refine qu rfl hF ?_ ?_ <;> intro hF
 ·refine zKSBSR (zp1 rfl ?_)
  obtain ⟨y4, hy4, hF⟩ := qd hF
  have he4 := qf hy4
  obtain ⟨b5, o_4, q4, cs5, hp4, hq4, -, hr5, hc8⟩ := s5.at hy4
  obtain ⟨p8, k7, p9, k8, p10, k9, p11, k10, rfl, s6, s7, s8, s9⟩ := qbw hr5
  refine zxe hp4 hq4 he4 rfl (zc 0 (hc8.below h.below) rfl (qU qc h rfl rfl rfl ?_))
  intro w9 bb3 h
  refine zp1 rfl (zs 0 h rfl ?_)
  intro w10 h
  replace h : SH _ _ [Ch.box bb3 [.slice p8 y4.Parent.length k7, .slice p9 y4.Res.length k8, .slice p10 y4.Cap.length k9, .slice p11 y4.Sink.length k10] 117, Ch.own S1 (x2 : List Int) [.slice p6 x1.length x1.length]] := h
  refine zNS ?_
  refine qcQ rfl (by kernel_rfl) ?_
  refine zdl 0 0 h rfl ?_
  refine zd2 rfl ?_
  obtain ⟨y5, hy5, hF⟩ := qd hF
  have he5 := qf hy5
  obtain ⟨b6, o_5, q5, cs6, hp5, hq5, -, hr6, hc9⟩ := (h.sl 1 rfl).1.at hy5
  obtain rfl := hr6
  refine zdx hp5 hq5 ⟨he5.1, qah he5.2.1 (h.sl 1 rfl).2⟩ rfl ?_
  refine zdc 0 hc9 rfl ?_
  obtain ⟨r2, hr7, hF⟩ := qd hF
  refine qc8 r2 (vsB _) call77 (fun _ hb => qkX (qhe y4 ((h.ext hb).oldS s6) ((h.ext hb).oldS s7) ((h.ext hb).oldS s8) ((h.ext hb).oldS s9)) hr7) rfl rfl rfl rfl ?_
  refine zd1 rfl ?_
  refine qbj (fun w11 hb => ?_)
  replace h := h.ext hb
  clear hb
  refine qu rfl hF ?_ ?_ <;> intro hF
  ·refine zSR (zp1 rfl (qb ?_))
   obtain rfl := qi hF; replace hF := hK2
   exact qx qc h hF ⟨rfl, trivial⟩
  refine zKER (zp2 rfl (qb ?_))
  replace h := h.pick [1] rfl
  exact qy m2 [(3, _), (48, _), (49, _), (50, _)] (Nat.lt_succ_self m2) ⟨rfl, rfl, rfl, rfl, trivial⟩ ⟨_, hF, rfl, h⟩
 refine qH rfl ?_
 obtain rfl := qi hF; replace hF := hK2
 exact zSR (zp1 rfl (qb (qx qc h hF ⟨rfl, trivial⟩)))

end Go.Fw
