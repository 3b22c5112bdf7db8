/- By a program of mine (gen.py): for each function a plain function and the proof that the code computes it. -/
import Derived.Test.YtopijfgpbojkoaaGreatDoorA2
import Derived.Test.YtopijfgpbojkoaaGreatDoorFw38
open Option renaming bind_some → ja
open Nat renaming le_refl → jb, mul_le_mul_right → jj, le_of_ble_eq_true → jq, lt_of_lt_of_le → js, succ_mul → jE, zero_add → jU
open Bool renaming and_eq_true → jc, eq_iff_iff → jh, true_and → jw, not_eq_true' → jD, not_true → jW
open Go.Result renaming andThen_ok → jd
open List renaming length_append → je, getElem?_eq_getElem → jf, length_singleton → jk, append_assoc → jm, mem_cons_of_mem → jo, getElem_mem → jp, getElem?_append_left → jr, mem_cons_self → jt, take_succ_eq_append_getElem → ju, length_map → jv, getElem?_take → jx, getElem?_append_right → jy, getD_eq_getElem?_getD → jz, getElem?_toArray → jA, take_length → jB, eq_nil_of_length_eq_zero → jC, not_mem_nil → jF, length_replicate → jG, size_toArray → jH, all_eq_true → jL, drop_eq_getElem_cons → jM, getElem_of_mem → jN, map_append → jO, mem_cons → jQ, length_take → jS, ext_getElem → jT
open Go.Sem renaming run_bind → jg, run_pure → ji
open Int renaming toNat_natCast → jn, tdiv_eq_ediv_of_nonneg → jJ, mul_nonneg → jK, mul_assoc → jP, mul_le_mul → jR, le_refl → jV
open Array renaming getElem?_append_left → jI

namespace Go.Fw
open Go Go.Proofs
open Go.RowKit (Below)
set_option maxRecDepth 100000
set_option maxHeartbeats 1600000
variable {n : Nat} {w : World} {cs1 cs2 cs3 cs4 cs5 cs6 cs7 cs8 cs9 : List Value}
def qdf (a_0 : qA) (i1 : Int) (y1 : qO) : Nat → Int → Option (Flow Bool Int)
 | 0, _ => none
 | n + 1, i2 =>
  bif decide (i2 < i1) then
   (idx a_0.Ar i2).bind fun y2 =>
   bif (y2.Be == y1.Be) then
    (idx a_0.Ar i2).bind fun y3 =>
    bif (y3.Bk == y1.Bk) then
     (idx a_0.Ar i2).bind fun y4 =>
     bif (y4.To == y1.To) then some (.ret false) else
     qdf a_0 i1 y1 n (W64 (i2 + 1))
    else
     qdf a_0 i1 y1 n (W64 (i2 + 1))
   else
    qdf a_0 i1 y1 n (W64 (i2 + 1))
  else
   some (.nxt i2)
def qe0 (a_0 : qA) : Nat → Int → Option (Flow Bool Int)
 | 0, _ => none
 | n + 1, i3 =>
  bif decide (i3 < (a_0.Br.length : Int)) then
   (idx a_0.Br i3).bind fun y5 =>
   (qaq n y5 0 1).bind fun r6 =>
   bif (!r6) then some (.ret false) else
   qe0 a_0 n (W64 (i3 + 1))
  else
   some (.nxt i3)
def qe6 (a_0 : qA) : Nat → Int → Option (Flow Bool Int)
 | 0, _ => none
 | n + 1, i1 =>
  bif decide (i1 < (a_0.Ar.length : Int)) then
   (idx a_0.Ar i1).bind fun y1 =>
   (qkv n a_0 y1).bind fun r4 =>
   bif (!r4) then some (.ret false) else
   (qdf a_0 i1 y1 n 0).bind fun o => match o with
   | .ret r => some (.ret r)
   | .nxt _ =>
    qe6 a_0 n (W64 (i1 + 1))
  else
   some (.nxt i1)
def qkH (n : Nat) (a_0 : qA) : Option Bool :=
 (qjs n a_0).bind fun o => match o with
  | (r2, r3) =>
   (
    bif (!r3) then some true else
    (qfm n a_0.Bb).bind fun r7 =>
    bif (!r7) then some true else
    bif decide ((a_0.Ar.length : Int) > 8) then some true else
    (qaq n a_0.Ca 0 100000).bind fun r8 =>
    bif (!r8) then some true else
    (qaq n a_0.Bu 0 100000).bind fun r9 =>
    some (!r9)).bind fun b1 =>
   bif b1 then some false else
   (qe6 a_0 n 0).bind fun o => match o with
   | .ret r => some r
   | .nxt _ =>
    (qiN n a_0).bind fun r5 =>
    bif (a_0.Be == 1) then
     (qe0 a_0 n 0).bind fun o => match o with
     | .ret r => some r
     | .nxt _ =>
      bif (r2 == 0) then
       (shlS 1 (IntKind.wrap .u64 (W64 ((a_0.Bc.length : Int) - 1)))).bind fun y6 =>
       some ((a_0.Br.length : Int) == y6)
      else
       some false
    else
     bif (a_0.Be == 2) then
      bif (r2 == 1) then
       (idx r5 1).bind fun y7 =>
       bif (y7 == 0) then
        (idx r5 2).bind fun y8 =>
        (idx r5 3).bind fun y9 =>
        bif (!((decide (y8 > 0)) == (decide (y9 > 0)))) then some ((a_0.Br.length : Int) == 0) else
        some false
       else
        some false
      else
       some false
     else
      bif (a_0.Be == 3) then
       bif (r2 == 1) then
        (idx r5 1).bind fun y10 =>
        bif decide (y10 > 0) then
         (idx r5 2).bind fun y11 =>
         bif decide (y11 > 0) then
          (idx r5 3).bind fun y12 =>
          bif (y12 == 0) then some ((a_0.Br.length : Int) == 0) else
          some false
         else
          some false
        else
         some false
       else
        some false
      else
       some false
theorem qp9 {a_0 : qA} (ha1 : GoT.R w (old w) a_0 cs1) {r : Bool} (hF : qkH n a_0 = some r) : RetV Tryz.prog 194 [GoT.v qA cs1] w r := by
 obtain ⟨p1, k1, p2, k2, p3, k3, rfl, s1, s2, s3⟩ := qaa ha1
 refine zV 182 Tryz.func194 rfl fun h => zSR (qt h rfl rfl fun w1 bb1 h => X1 5 0 h rfl ?_)
 obtain ⟨r1, hr1, hF⟩ := qc hF
 obtain ⟨r2, r3⟩ := r1
 refine qbj (r2, r3) h (cB 227 rfl) (qpe (h.old ha1) hr1) rfl rfl rfl rfl fun w2 S1 us1 hv1 hr2 => ?_
 obtain ⟨S2, us2, rfl, hv2, hr3⟩ := hv1.consI hr2
 obtain ⟨rfl, h⟩ := hv2.lastB hr3
 refine X0 8 rfl ?_
 obtain ⟨KF1, hKF1, o4, hF, hK4⟩ := bindE hF
 refine qbi (fun e w' => ∃ (b1 : Bool), KF1 b1 = some r ∧ e = [(1, .pointer (some ⟨bb1, 0, none⟩)), (3, .int .i64 r2), (40, .bool b1)] ∧ SH w w' [Ch.box bb1 (qdG a_0 p1 p2 p3 k1 k2 k3) 166]) ?_ ?_
 ·refine X0 4 rfl (qi (t := 17) hF rfl ?_ ?_) <;> intro hF
  ·refine X0 24 rfl ?_
   obtain rfl := qb hF
   exact rG ⟨_, hK4, rfl, h⟩ rfl
  refine X1 5 0 h rfl (zcB h hF qhn rfl fun r7 w18 h hF => X0 4 rfl (qi (t := 23) hF rfl ?_ ?_)) <;> intro hF
  ·refine X0 18 rfl ?_
   obtain rfl := qb hF
   exact rG ⟨_, hK4, rfl, h⟩ rfl
  refine X1 10 0 h rfl (qi (t := 29) hF rfl ?_ ?_) <;> intro hF
  ·refine X0 12 rfl ?_
   obtain rfl := qb hF
   exact rG ⟨_, hK4, rfl, h⟩ rfl
  refine X1 5 0 h rfl (zcB h hF qac rfl fun r8 w19 h hF => X0 4 rfl (qi (t := 35) hF rfl ?_ ?_)) <;> intro hF
  ·refine X0 6 rfl ?_
   obtain rfl := qb hF
   exact rG ⟨_, hK4, rfl, h⟩ rfl
  refine X1 5 0 h rfl (zcB h hF qac rfl fun r9 w20 h hF => X0 4 rfl ?_)
  obtain rfl := qb hF
  exact rG ⟨_, hK4, rfl, h⟩ rfl
 rintro e4 w21 ⟨b1, hF, rfl, h⟩
 subst hKF1
 refine qg rfl hF ?_ ?_ <;> intro hF
 ·exact X0 4 rfl (rb h hF rfl)
 refine X0 6 rfl ?_
 obtain ⟨o1, hF, hK1⟩ := qc hF
 refine ql (rL (fun m e w' => ∃ (i1 : Int), qe6 a_0 m i1 = some o1 ∧ e = [(1, .pointer (some ⟨bb1, 0, none⟩)), (3, .int .i64 r2), (5, .int .i64 i1)] ∧ SH w w' [Ch.box bb1 (qdG a_0 p1 p2 p3 k1 k2 k3) 166]) n ⟨_, hF, rfl, h⟩ rfl ?_)
 rintro m1 e1 w3 ⟨i1, hF, rfl, h⟩
 rcases m1 with _ | m1
 ·cases hF
 refine X1 9 0 h rfl (qg rfl hF ?_ ?_) <;> intro hF
 ·refine X1 8 0 h rfl ?_
  obtain ⟨y1, hy1, hF, he1, b2, _, q1, cs2, hp1, hq1, hr5, hc3⟩ := s2.ix hF
  obtain ⟨p4, k4, p5, k5, rfl, s4, s5⟩ := qae hr5
  refine zxe hp1 hq1 he1 rfl (zc 0 (hc3.below h.below) rfl (qm qa h rfl rfl rfl fun w4 bb2 h => zs 0 h rfl fun w5 h => X2 6 1 0 h rfl (zcB h hF (qqh (h.old ha1) (qe9 y1 (h.oldS s4) (h.oldS s5))) rfl fun r4 w6 h hF => X0 2 rfl (qg rfl hF ?_ ?_)))) <;> intro hF
  ·refine X0 4 rfl ?_
   obtain rfl := qb hF; replace hF := hK1
   exact rb h hF rfl
  refine X0 5 rfl ?_
  obtain ⟨o2, hF, hK2⟩ := qc hF
  refine ql (rL (fun m e w' => ∃ (i2 : Int), qdf a_0 i1 y1 m i2 = some o2 ∧ e = [(1, .pointer (some ⟨bb1, 0, none⟩)), (3, .int .i64 r2), (5, .int .i64 i1), (6, .pointer (some ⟨bb2, 0, none⟩)), (7, .int .i64 i2)] ∧ SH w w' [Ch.box bb2 (qgk y1 p4 p5 k4 k5) 171, Ch.box bb1 (qdG a_0 p1 p2 p3 k1 k2 k3) 166]) m1 ⟨_, hF, rfl, h⟩ rfl ?_)
  rintro m2 e2 w7 ⟨i2, hF, rfl, h⟩
  rcases m2 with _ | m2
  ·cases hF
  refine X0 7 rfl (qg rfl hF ?_ ?_) <;> intro hF
  ·refine X0 4 rfl (rD (Y1 2 1 h rfl ?_))
   refine zd1 rfl ?_
   obtain ⟨y2, hy2, hF, he2, b3, _, q2, cs3, hp2, hq2, hr7, hc6⟩ := s2.ix hF
   obtain ⟨p6, k6, p7, k7, rfl, s6, s7⟩ := qae hr7
   refine zdxe hp2 hq2 he2 rfl (zd1 rfl (zdc 0 (hc6.below h.below) rfl (Y1 2 0 h rfl ?_)))
   refine zd2 rfl (qaI (t := 71) hF rfl ?_ ?_) <;> intro hF
   ·refine Y1 4 1 h rfl ?_
    refine Y0 3 rfl ?_
    obtain ⟨y3, hy3, hF, he3, b4, _, q3, cs4, hp3, hq3, hr8, hc7⟩ := s2.ix hF
    obtain ⟨p8, k8, p9, k9, rfl, s8, s9⟩ := qae hr8
    refine zdxe hp3 hq3 he3 rfl (Y0 3 rfl (zdc 1 (hc7.below h.below) rfl (Y1 4 0 h rfl ?_)))
    refine Y0 4 rfl (qaI (t := 82) hF rfl ?_ ?_) <;> intro hF
    ·refine Y1 4 1 h rfl ?_
     refine Y0 3 rfl ?_
     obtain ⟨y4, hy4, hF, he4, b5, _, q4, cs5, hp4, hq4, hr9, hc8⟩ := s2.ix hF
     obtain ⟨p10, k10, p11, k11, rfl, s10, s11⟩ := qae hr9
     refine zdxe hp4 hq4 he4 rfl (Y0 3 rfl (zdc 2 (hc8.below h.below) rfl (Y1 4 0 h rfl ?_)))
     refine Y0 3 rfl (dN h fun w8 h => qg rfl hF ?_ ?_) <;> intro hF
     ·refine X0 4 rfl ?_
      obtain rfl := qb hF; replace hF := hK2
      obtain rfl := qb hF; replace hF := hK1
      exact rb h hF rfl
     exact X0 7 rfl (rK ⟨_, hF, rfl, h⟩ rfl)
    exact Y0 10 rfl (dN h fun w9 h => qbQ rfl rfl (X0 7 rfl (rK ⟨_, hF, rfl, h⟩ rfl)))
   exact Y0 21 rfl (dN h fun w10 h => qbQ rfl rfl (X0 7 rfl (rK ⟨_, hF, rfl, h⟩ rfl)))
  refine qr rfl ?_
  obtain rfl := qb hF; replace hF := hK2
  refine X0 6 rfl ?_
  replace h := h.pick [1] rfl
  exact rK ⟨_, hF, rfl, h⟩ rfl
 refine qr rfl ?_
 obtain rfl := qb hF; replace hF := hK1
 refine X1 3 0 h rfl (zcL h hF (qos (h.old ha1)) rfl fun r5 w11 S4 p12 k12 h hF => X1 14 1 h rfl (qg rfl hF ?_ ?_)) <;> intro hF
 ·refine X0 5 rfl ?_
  obtain ⟨o3, hF, hK3⟩ := qc hF
  refine ql ?_
  replace h := h.pick [1] rfl
  refine rL (fun m e w' => ∃ (i3 : Int), qe0 a_0 m i3 = some o3 ∧ e = [(1, .pointer (some ⟨bb1, 0, none⟩)), (3, .int .i64 r2), (9, .int .i64 i3)] ∧ SH w w' [Ch.box bb1 (qdG a_0 p1 p2 p3 k1 k2 k3) 166]) n ⟨_, hF, rfl, h⟩ rfl ?_
  rintro m3 e3 w12 ⟨i3, hF, rfl, h⟩
  rcases m3 with _ | m3
  ·cases hF
  refine X1 9 0 h rfl (qg rfl hF ?_ ?_) <;> intro hF
  ·refine X1 8 0 h rfl ?_
   obtain ⟨y5, hy5, hF, he5, b6, _, q5, cs6, hp5, hq5, rfl, hc12⟩ := s3.ix hF
   refine zxe hp5 hq5 he5 rfl (zc 0 (hc12.below h.below) rfl (zcB h hF qac rfl fun r6 w13 h hF => X0 2 rfl (qg rfl hF ?_ ?_))) <;> intro hF
   ·refine X0 4 rfl ?_
    obtain rfl := qb hF; replace hF := hK3
    exact rb h hF rfl
   exact X0 7 rfl (rK ⟨_, hF, rfl, h⟩ rfl)
  refine qr rfl ?_
  obtain rfl := qb hF; replace hF := hK3
  refine X0 5 rfl (qi (t := 115) hF rfl ?_ ?_) <;> intro hF
  ·refine X2 17 0 0 h rfl ?_
   obtain ⟨y6, hx1, hF⟩ := qc hF
   obtain ⟨g1, hx1⟩ := qre hx1
   refine r_v (qxl g1 rfl rfl) rfl ?_
   rw [hx1]
   exact X0 5 rfl (rb h hF rfl)
  exact X0 13 rfl (rb h hF rfl)
 refine X0 5 rfl (qg rfl hF ?_ ?_) <;> intro hF
 ·refine qcM (rD (zd3 rfl (qaI (t := 131) hF rfl ?_ ?_))) <;> intro hF
  ·refine Y0 3 rfl ?_
   obtain ⟨y7, hy6, hF, he6, b7, _, q6, cs7, hp6, hq6, rfl, hc15⟩ := (h.sl 0 rfl).1.ix hF
   refine zdx hp6 hq6 ⟨he6.1, qU he6.2.1 (h.sl 0 rfl).2⟩ rfl (Y0 1 rfl (zdc 0 hc15 rfl (Y0 4 rfl (qaI (t := 137) hF rfl ?_ ?_)))) <;> intro hF
   ·refine Y0 3 rfl ?_
    obtain ⟨y8, hy7, hF, he7, b8, _, q7, cs8, hp7, hq7, rfl, hc16⟩ := (h.sl 0 rfl).1.ix hF
    refine zdx hp7 hq7 ⟨he7.1, qU he7.2.1 (h.sl 0 rfl).2⟩ rfl (Y0 1 rfl (zdc 0 hc16 rfl (Y0 5 rfl ?_)))
    obtain ⟨y9, hy8, hF, he8, b9, _, q8, cs9, hp8, hq8, rfl, hc17⟩ := (h.sl 0 rfl).1.ix hF
    refine zdx hp8 hq8 ⟨he8.1, qU he8.2.1 (h.sl 0 rfl).2⟩ rfl (Y0 1 rfl (zdc 0 hc17 rfl (Y0 6 rfl (qaI (t := 148) hF rfl ?_ ?_)))) <;> intro hF
    ·refine Y1 4 1 h rfl ?_
     exact Y0 6 rfl (dN h fun w14 h => rb h hF rfl)
    exact Y0 6 rfl (dN h fun w15 h => rb h hF rfl)
   exact Y0 17 rfl (dN h fun w16 h => rb h hF rfl)
  exact Y0 23 rfl (dN h fun w17 h => rb h hF rfl)
 refine X0 5 rfl (qg rfl hF ?_ ?_) <;> intro hF
 ·refine X0 5 rfl (qi (t := 158) hF rfl ?_ ?_) <;> intro hF
  ·refine X0 3 rfl ?_
   obtain ⟨y10, hy9, hF, he9, b10, _, q9, cs10, hp9, hq9, rfl, hc19⟩ := (h.sl 0 rfl).1.ix hF
   refine zx hp9 hq9 ⟨he9.1, qU he9.2.1 (h.sl 0 rfl).2⟩ rfl (X0 1 rfl (zc 0 hc19 rfl (X0 4 rfl (qi (t := 164) hF rfl ?_ ?_)))) <;> intro hF
   ·refine X0 3 rfl ?_
    obtain ⟨y11, hy10, hF, he10, b11, _, q10, cs11, hp10, hq10, rfl, hc20⟩ := (h.sl 0 rfl).1.ix hF
    refine zx hp10 hq10 ⟨he10.1, qU he10.2.1 (h.sl 0 rfl).2⟩ rfl (X0 1 rfl (zc 0 hc20 rfl (X0 4 rfl (qi (t := 170) hF rfl ?_ ?_)))) <;> intro hF
    ·refine X0 3 rfl ?_
     obtain ⟨y12, hy11, hF, he11, b12, _, q11, cs12, hp11, hq11, rfl, hc21⟩ := (h.sl 0 rfl).1.ix hF
     refine zx hp11 hq11 ⟨he11.1, qU he11.2.1 (h.sl 0 rfl).2⟩ rfl (X0 1 rfl (zc 0 hc21 rfl (X0 4 rfl (qi (t := 176) hF rfl ?_ ?_)))) <;> intro hF
     ·exact X1 11 1 h rfl (rb h hF rfl)
     exact X0 7 rfl (rb h hF rfl)
    exact X0 13 rfl (rb h hF rfl)
   exact X0 19 rfl (rb h hF rfl)
  exact X0 25 rfl (rb h hF rfl)
 exact X0 6 rfl (rb h hF rfl)
def qdn (l : qp) (i1 : Int) : Nat → Int → Option (Flow Bool Int)
 | 0, _ => none
 | n + 1, i2 =>
  bif decide (i2 < i1) then
   (idx l.Aq i2).bind fun y2 =>
   (idx l.Aq i1).bind fun y3 =>
   bif (y2.Bb.toList == y3.Bb.toList) then some (.ret false) else
   qdn l i1 n (W64 (i2 + 1))
  else
   some (.nxt i2)
def qdk (l : qp) : Nat → Int → Option (Flow Bool Int)
 | 0, _ => none
 | n + 1, i1 =>
  bif decide (i1 < (l.Aq.length : Int)) then
   (idx l.Aq i1).bind fun y1 =>
   (qkH n y1).bind fun r1 =>
   bif (!r1) then some (.ret false) else
   (qdn l i1 n 0).bind fun o => match o with
   | .ret r => some (.ret r)
   | .nxt _ =>
    qdk l n (W64 (i1 + 1))
  else
   some (.nxt i1)
def qhP (n : Nat) (l : qp) : Option Bool :=
 (qdk l n 0).bind fun o => match o with
 | .ret r => some r
 | .nxt _ =>
  some (decide ((l.Aq.length : Int) ≤ 8))
theorem qnC {l : qp} (ha1 : GoT.R w (old w) l cs1) {r : Bool} (hF : qhP n l = some r) : RetV Tryz.prog 163 [GoT.v qp cs1] w r := by
 obtain ⟨p1, k1, rfl, s1⟩ := qbs ha1
 refine zV 41 Tryz.func163 rfl fun h => zSR (qt h rfl rfl fun w1 bb1 h => X0 7 rfl ?_)
 obtain ⟨o1, hF, hK1⟩ := qc hF
 refine ql (rL (fun m e w' => ∃ (i1 : Int), qdk l m i1 = some o1 ∧ e = [(1, .pointer (some ⟨bb1, 0, none⟩)), (3, .int .i64 i1)] ∧ SH w w' [Ch.box bb1 [.slice p1 l.Aq.length k1] 43]) n ⟨_, hF, rfl, h⟩ rfl ?_)
 rintro m1 e1 w2 ⟨i1, hF, rfl, h⟩
 rcases m1 with _ | m1
 ·cases hF
 refine X1 9 0 h rfl (qg rfl hF ?_ ?_) <;> intro hF
 ·refine X1 9 0 h rfl ?_
  obtain ⟨y1, hy1, hF, he1, b1, _, q1, cs2, hp1, hq1, hr1, hc2⟩ := s1.ix hF
  obtain ⟨p2, k2, p3, k3, p4, k4, rfl, s2, s3, s4⟩ := qaa hr1
  refine zxe hp1 hq1 he1 rfl (zc 0 (hc2.below h.below) rfl (zcB h hF (qp9 (qjJ y1 (h.oldS s2) (h.oldS s3) (h.oldS s4))) rfl fun r1 w3 h hF => X0 2 rfl (qg rfl hF ?_ ?_))) <;> intro hF
  ·refine X0 4 rfl ?_
   obtain rfl := qb hF; replace hF := hK1
   exact rb h hF rfl
  refine X0 5 rfl ?_
  obtain ⟨o2, hF, hK2⟩ := qc hF
  refine ql (rL (fun m e w' => ∃ (i2 : Int), qdn l i1 m i2 = some o2 ∧ e = [(1, .pointer (some ⟨bb1, 0, none⟩)), (3, .int .i64 i1), (4, .int .i64 i2)] ∧ SH w w' [Ch.box bb1 [.slice p1 l.Aq.length k1] 43]) m1 ⟨_, hF, rfl, h⟩ rfl ?_)
  rintro m2 e2 w4 ⟨i2, hF, rfl, h⟩
  rcases m2 with _ | m2
  ·cases hF
  refine X0 7 rfl (qg rfl hF ?_ ?_) <;> intro hF
  ·refine X0 4 rfl (rD (Y1 2 0 h rfl ?_))
   refine zd1 rfl ?_
   obtain ⟨y2, hy2, hF, he2, b2, _, q2, cs3, hp2, hq2, hr3, hc5⟩ := s1.ix hF
   obtain ⟨p5, k5, p6, k6, p7, k7, rfl, s5, s6, s7⟩ := qaa hr3
   refine zdxe hp2 hq2 he2 rfl (zd1 rfl (zdc 0 (hc5.below h.below) rfl (Y1 2 0 h rfl ?_)))
   refine zd1 rfl ?_
   obtain ⟨y3, hy3, hF, he3, b3, _, q3, cs4, hp3, hq3, hr4, hc6⟩ := s1.ix hF
   obtain ⟨p8, k8, p9, k9, p10, k10, rfl, s8, s9, s10⟩ := qaa hr4
   refine zdxe hp3 hq3 he3 rfl (zd1 rfl (zdc 0 (hc6.below h.below) rfl (zd1 rfl (dN h fun w5 h => qg rfl hF ?_ ?_)))) <;> intro hF
   ·refine X0 4 rfl ?_
    obtain rfl := qb hF; replace hF := hK2
    obtain rfl := qb hF; replace hF := hK1
    exact rb h hF rfl
   exact X0 7 rfl (rK ⟨_, hF, rfl, h⟩ rfl)
  refine qr rfl ?_
  obtain rfl := qb hF; replace hF := hK2
  exact X0 6 rfl (rK ⟨_, hF, rfl, h⟩ rfl)
 refine qr rfl ?_
 obtain rfl := qb hF; replace hF := hK1
 exact X1 8 0 h rfl (rb h hF rfl)
def qd0 (a_1 : qd) (y1 : qn) : Nat → Int → Option (Flow Bool Int)
 | 0, _ => none
 | n + 1, i2 =>
  bif decide (i2 < (y1.Am.length : Int)) then
   (idx y1.Am i2).bind fun y2 =>
   (qaq n y2 0 (W64 ((a_1.Am.length : Int) - 1))).bind fun r1 =>
   bif (!r1) then some (.ret false) else
   qd0 a_1 y1 n (W64 (i2 + 1))
  else
   some (.nxt i2)
def qdS (a_1 : qd) : Nat → Int → Option (Flow Bool Int)
 | 0, _ => none
 | n + 1, i3 =>
  bif decide (i3 < (a_1.Aj.length : Int)) then
   (idx a_1.Aj i3).bind fun y4 =>
   (qaq n y4.Bv 1 2).bind fun r3 =>
   bif (!r3) then some (.ret false) else
   (idx a_1.Aj i3).bind fun y5 =>
   (qaq n y5.Bx 0 (W64 ((a_1.Am.length : Int) - 1))).bind fun r4 =>
   bif (!r4) then some (.ret false) else
   qdS a_1 n (W64 (i3 + 1))
  else
   some (.nxt i3)
def qdO (a_0 : qp) (a_1 : qd) : Nat → Int → Option (Flow Bool Int)
 | 0, _ => none
 | n + 1, i1 =>
  bif decide (i1 < (a_1.Aa.length : Int)) then
   (idx a_1.Aa i1).bind fun y1 =>
   (
    (qaq n y1.Bs 0 (W64 ((a_0.Aq.length : Int) - 1))).bind fun r2 =>
    bif (!r2) then some true else
    (idx a_0.Aq y1.Bs).bind fun y3 =>
    some ((y1.Am.length : Int) != (y3.Bc.length : Int))).bind fun b2 =>
   bif b2 then some (.ret false) else
   (qd0 a_1 y1 n 0).bind fun o => match o with
   | .ret r => some (.ret r)
   | .nxt _ =>
    qdO a_0 a_1 n (W64 (i1 + 1))
  else
   some (.nxt i1)
def qiH (n : Nat) (a_0 : qp) (a_1 : qd) : Option Bool :=
 (qdO a_0 a_1 n 0).bind fun o => match o with
 | .ret r => some r
 | .nxt _ =>
  (qdS a_1 n 0).bind fun o => match o with
  | .ret r => some r
  | .nxt _ =>
   some true
theorem qoj {a_0 : qp} {a_1 : qd} (ha1 : GoT.R w (old w) a_0 cs1) (ha2 : GoT.R w (old w) a_1 cs2) {r : Bool} (hF : qiH n a_0 a_1 = some r) : RetV Tryz.prog 164 [GoT.v qp cs1, GoT.v qd cs2] w r := by
 obtain ⟨p1, k1, rfl, s1⟩ := qbs ha1
 obtain ⟨p2, k2, p3, k3, p4, k4, rfl, s2, s3, s4⟩ := qat ha2
 refine zV 90 Tryz.func164 rfl fun h => zSR (qt h rfl rfl fun w1 bb1 h => qt h rfl rfl fun w2 bb2 h => X1 14 0 h rfl ?_)
 obtain ⟨o1, hF, hK1⟩ := qc hF
 refine ql (rL (fun m e w' => ∃ (i1 : Int), qdO a_0 a_1 m i1 = some o1 ∧ e = [(2, .pointer (some ⟨bb1, 0, none⟩)), (3, .pointer (some ⟨bb2, 0, none⟩)), (5, .int .i64 (a_1.Am.length : Int)), (6, .int .i64 i1)] ∧ SH w w' [Ch.box bb2 (qaH a_1 p2 p3 p4 k2 k3 k4) 47, Ch.box bb1 [.slice p1 a_0.Aq.length k1] 43]) n ⟨_, hF, rfl, h⟩ rfl ?_)
 rintro m1 e1 w3 ⟨i1, hF, rfl, h⟩
 rcases m1 with _ | m1
 ·cases hF
 refine X1 9 0 h rfl (qg rfl hF ?_ ?_) <;> intro hF
 ·refine X1 8 0 h rfl ?_
  obtain ⟨y1, hy1, hF, he1, b1, _, q1, cs3, hp1, hq1, hr1, hc2⟩ := s2.ix hF
  obtain ⟨p5, k5, rfl, s5⟩ := qM hr1
  refine zxe hp1 hq1 he1 rfl (zc 0 (hc2.below h.below) rfl (qm qa h rfl rfl rfl fun w4 bb3 h => zs 0 h rfl fun w5 h => zNSS ?_))
  obtain ⟨KF1, hKF1, o3, hF, hK3⟩ := bindE hF
  refine qbi (fun e w' => ∃ (b2 : Bool), KF1 b2 = some o1 ∧ e = [(2, .pointer (some ⟨bb1, 0, none⟩)), (3, .pointer (some ⟨bb2, 0, none⟩)), (5, .int .i64 (a_1.Am.length : Int)), (6, .int .i64 i1), (7, .pointer (some ⟨bb3, 0, none⟩)), (46, .bool b2)] ∧ SH w w' [Ch.box bb3 (qiY y1 p5 k5) 168, Ch.box bb2 (qaH a_1 p2 p3 p4 k2 k3 k4) 47, Ch.box bb1 [.slice p1 a_0.Aq.length k1] 43]) ?_ ?_
  ·refine rD (Y1 2 0 h rfl ?_)
   refine Y1 2 2 h rfl ?_
   refine zd2 rfl ?_
   obtain ⟨r2, hr4, hF⟩ := qc hF
   refine qbc r2 (vsB _) (cB 58 rfl) (fun _ hb => qac  hr4) rfl rfl rfl rfl (zd2 rfl (qaI (t := 33) hF rfl ?_ ?_)) <;> intro hF
   ·refine Y0 13 rfl (dN h fun w8 h => ?_)
    obtain rfl := qb hF
    exact rG ⟨_, hK3, rfl, h⟩ rfl
   refine Y1 4 0 h rfl ?_
   refine Y1 6 2 h rfl ?_
   refine Y1 4 0 h rfl ?_
   refine Y0 1 rfl ?_
   obtain ⟨y3, hy3, hF, he3, b4, _, q3, cs5, hp3, hq3, hr5, hc7⟩ := s1.ix hF
   obtain ⟨p6, k6, p7, k7, p8, k8, rfl, s6, s7, s8⟩ := qaa hr5
   refine zdxe hp3 hq3 he3 rfl (Y0 3 rfl (zdc 2 (hc7.below h.below) rfl (Y0 5 rfl (dN h fun w9 h => ?_))))
   obtain rfl := qb hF
   exact rG ⟨_, hK3, rfl, h⟩ rfl
  rintro e3 w10 ⟨b2, hF, rfl, h⟩
  subst hKF1
  refine qg rfl hF ?_ ?_ <;> intro hF
  ·refine X0 4 rfl ?_
   obtain rfl := qb hF; replace hF := hK1
   exact rb h hF rfl
  refine X0 5 rfl ?_
  obtain ⟨o2, hF, hK2⟩ := qc hF
  refine ql (rL (fun m e w' => ∃ (i2 : Int), qd0 a_1 y1 m i2 = some o2 ∧ e = [(2, .pointer (some ⟨bb1, 0, none⟩)), (3, .pointer (some ⟨bb2, 0, none⟩)), (5, .int .i64 (a_1.Am.length : Int)), (6, .int .i64 i1), (7, .pointer (some ⟨bb3, 0, none⟩)), (8, .int .i64 i2)] ∧ SH w w' [Ch.box bb3 (qiY y1 p5 k5) 168, Ch.box bb2 (qaH a_1 p2 p3 p4 k2 k3 k4) 47, Ch.box bb1 [.slice p1 a_0.Aq.length k1] 43]) m1 ⟨_, hF, rfl, h⟩ rfl ?_)
  rintro m2 e2 w6 ⟨i2, hF, rfl, h⟩
  rcases m2 with _ | m2
  ·cases hF
  refine X1 9 0 h rfl (qg rfl hF ?_ ?_) <;> intro hF
  ·refine X1 8 0 h rfl ?_
   obtain ⟨y2, hy2, hF, he2, b3, _, q2, cs4, hp2, hq2, rfl, hc5⟩ := s5.ix hF
   refine zxe hp2 hq2 he2 rfl (zc 0 (hc5.below h.below) rfl (zp2 rfl (zcB h hF qac rfl fun r1 w7 h hF => X0 2 rfl (qg rfl hF ?_ ?_)))) <;> intro hF
   ·refine X0 4 rfl ?_
    obtain rfl := qb hF; replace hF := hK2
    obtain rfl := qb hF; replace hF := hK1
    exact rb h hF rfl
   exact X0 7 rfl (rK ⟨_, hF, rfl, h⟩ rfl)
  refine qr rfl ?_
  obtain rfl := qb hF; replace hF := hK2
  refine X0 6 rfl ?_
  replace h := h.pick [1, 2] rfl
  exact rK ⟨_, hF, rfl, h⟩ rfl
 refine qr rfl ?_
 obtain rfl := qb hF; replace hF := hK1
 refine X0 5 rfl ?_
 obtain ⟨o4, hF, hK4⟩ := qc hF
 refine ql ?_
 replace h := h.pick [0] rfl
 refine rL (fun m e w' => ∃ (i3 : Int), qdS a_1 m i3 = some o4 ∧ e = [(3, .pointer (some ⟨bb2, 0, none⟩)), (5, .int .i64 (a_1.Am.length : Int)), (9, .int .i64 i3)] ∧ SH w w' [Ch.box bb2 (qaH a_1 p2 p3 p4 k2 k3 k4) 47]) n ⟨_, hF, rfl, h⟩ rfl ?_
 rintro m3 e4 w11 ⟨i3, hF, rfl, h⟩
 rcases m3 with _ | m3
 ·cases hF
 refine X1 9 0 h rfl (qg rfl hF ?_ ?_) <;> intro hF
 ·refine X1 8 0 h rfl ?_
  obtain ⟨y4, hy4, hF, he4, b5, _, q4, cs6, hp4, hq4, hr6, hc9⟩ := s4.ix hF
  obtain rfl := qa5 hr6
  refine zxe hp4 hq4 he4 rfl (zp1 rfl (zc 1 (hc9.below h.below) rfl (zcB h hF qac rfl fun r3 w12 h hF => zp2 rfl (qi (t := 78) hF rfl ?_ ?_)))) <;> intro hF
  ·refine X0 12 rfl (qbT rfl rfl (X0 4 rfl ?_))
   obtain rfl := qb hF; replace hF := hK4
   exact rb h hF rfl
  refine X1 7 0 h rfl ?_
  obtain ⟨y5, hy5, hF, he5, b6, _, q5, cs7, hp5, hq5, hr8, hc10⟩ := s4.ix hF
  obtain rfl := qa5 hr8
  refine zxe hp5 hq5 he5 rfl (X0 3 rfl (zc 2 (hc10.below h.below) rfl (X0 5 rfl (zcB h hF qac rfl fun r4 w13 h hF => X0 4 rfl (qg rfl hF ?_ ?_))))) <;> intro hF
  ·refine X0 4 rfl ?_
   obtain rfl := qb hF; replace hF := hK4
   exact rb h hF rfl
  exact X0 7 rfl (rK ⟨_, hF, rfl, h⟩ rfl)
 refine qr rfl ?_
 obtain rfl := qb hF; replace hF := hK4
 exact X0 4 rfl (rb h hF rfl)
def qdP (list : (List ByteArray)) (i1 : Int) : Nat → Int → Option (Flow Bool Int)
 | 0, _ => none
 | n + 1, i2 =>
  bif decide (i2 < i1) then
   (idx list i2).bind fun y2 =>
   (idx list i1).bind fun y3 =>
   bif (y2.toList == y3.toList) then some (.ret false) else
   qdP list i1 n (W64 (i2 + 1))
  else
   some (.nxt i2)
def qdV (list : (List ByteArray)) : Nat → Int → Option (Flow Bool Int)
 | 0, _ => none
 | n + 1, i1 =>
  bif decide (i1 < (list.length : Int)) then
   (idx list i1).bind fun y1 =>
   (qfm n y1).bind fun r1 =>
   bif (!r1) then some (.ret false) else
   (qdP list i1 n 0).bind fun o => match o with
   | .ret r => some (.ret r)
   | .nxt _ =>
    qdV list n (W64 (i1 + 1))
  else
   some (.nxt i1)
def qfX (n : Nat) (list : (List ByteArray)) : Option Bool :=
 (qdV list n 0).bind fun o => match o with
 | .ret r => some r
 | .nxt _ =>
  some true
theorem qio {list : (List ByteArray)} (ha1 : GoT.R w (old w) list cs1) {r : Bool} (hF : qfX n list = some r) : RetV Tryz.prog 165 [GoT.v (List ByteArray) cs1] w r := by
 obtain ⟨p1, k1, rfl, s1⟩ := ha1
 refine zV 31 Tryz.func165 rfl fun h => X0 9 rfl ?_
 obtain ⟨o1, hF, hK1⟩ := qc hF
 refine ql (rL (fun m e w' => ∃ (i1 : Int), qdV list m i1 = some o1 ∧ e = [(0, .slice p1 list.length k1), (3, .int .i64 i1)] ∧ SH w w' []) n ⟨_, hF, rfl, h⟩ rfl ?_)
 rintro m1 e1 w1 ⟨i1, hF, rfl, h⟩
 rcases m1 with _ | m1
 ·cases hF
 refine X0 8 rfl (qg rfl hF ?_ ?_) <;> intro hF
 ·refine X0 8 rfl ?_
  obtain ⟨y1, hy1, hF, he1, b1, _, q1, cs2, hp1, hq1, rfl, hc2⟩ := s1.ix hF
  refine zxe hp1 hq1 he1 rfl (zc 0 (hc2.below h.below) rfl (zcB h hF qhn rfl fun r1 w2 h hF => X0 2 rfl (qg rfl hF ?_ ?_))) <;> intro hF
  ·refine X0 4 rfl ?_
   obtain rfl := qb hF; replace hF := hK1
   exact rb h hF rfl
  refine X0 5 rfl ?_
  obtain ⟨o2, hF, hK2⟩ := qc hF
  refine ql (rL (fun m e w' => ∃ (i2 : Int), qdP list i1 m i2 = some o2 ∧ e = [(0, .slice p1 list.length k1), (3, .int .i64 i1), (4, .int .i64 i2)] ∧ SH w w' []) m1 ⟨_, hF, rfl, h⟩ rfl ?_)
  rintro m2 e2 w3 ⟨i2, hF, rfl, h⟩
  rcases m2 with _ | m2
  ·cases hF
  refine X0 7 rfl (qg rfl hF ?_ ?_) <;> intro hF
  ·refine X0 4 rfl (rD (zd2 rfl ?_))
   obtain ⟨y2, hy2, hF, he2, b2, _, q2, cs3, hp2, hq2, rfl, hc5⟩ := s1.ix hF
   refine zdxe hp2 hq2 he2 rfl (zdc 0 (hc5.below h.below) rfl (zd2 rfl ?_))
   obtain ⟨y3, hy3, hF, he3, b3, _, q3, cs4, hp3, hq3, rfl, hc6⟩ := s1.ix hF
   refine zdxe hp3 hq3 he3 rfl (zdc 0 (hc6.below h.below) rfl (zd1 rfl (dN h fun w4 h => qg rfl hF ?_ ?_))) <;> intro hF
   ·refine X0 4 rfl ?_
    obtain rfl := qb hF; replace hF := hK2
    obtain rfl := qb hF; replace hF := hK1
    exact rb h hF rfl
   exact X0 7 rfl (rK ⟨_, hF, rfl, h⟩ rfl)
  refine qr rfl ?_
  obtain rfl := qb hF; replace hF := hK2
  exact X0 6 rfl (rK ⟨_, hF, rfl, h⟩ rfl)
 refine qr rfl ?_
 obtain rfl := qb hF; replace hF := hK1
 exact X0 4 rfl (rb h hF rfl)
def qdU (x5 : (List Int)) (x7 : (List Int)) : Nat → Int → Option (Flow Bool Int)
 | 0, _ => none
 | n + 1, i5 =>
  bif decide (i5 < (x5.length : Int)) then
   (idx x7 i5).bind fun y11 =>
   bif (y11 != 1) then some (.ret false) else
   qdU x5 x7 n (W64 (i5 + 1))
  else
   some (.nxt i5)
def qcb (a_1 : qd) : Nat → (List Int) → Int → Option ((List Int) × Int)
 | 0, _, _ => none
 | n + 1, x7, i4 =>
  bif decide (i4 < (a_1.Aj.length : Int)) then
   (idx a_1.Aj i4).bind fun y7 =>
   bif (y7.Bv == 1) then
    (idx a_1.Aj i4).bind fun y8 =>
    (idx x7 y8.Bx).bind fun y9 =>
    (idx x7 y8.Bx).bind fun _ =>
    qcb a_1 n (setS x7 y8.Bx (W64 (y9 + 1))) (W64 (i4 + 1))
   else
    qcb a_1 n x7 (W64 (i4 + 1))
  else
   some (x7, i4)
def qcT (a_1 : qd) : Nat → (List Int) → Int → Option ((List Int) × Int)
 | 0, _, _ => none
 | n + 1, x6, i3 =>
  bif decide (i3 < (a_1.Aa.length : Int)) then
   (idx a_1.Aa i3).bind fun y3 =>
   (idx y3.Am (W64 ((y3.Am.length : Int) - 1))).bind fun y4 =>
   (idx x6 y4).bind fun y5 =>
   (idx x6 y4).bind fun _ =>
   qcT a_1 n (setS x6 y4 (W64 (y5 + 1))) (W64 (i3 + 1))
  else
   some (x6, i3)
def qcY (a_1 : qd) : Nat → (List ByteArray) → Int → Option ((List ByteArray) × Int)
 | 0, _, _ => none
 | n + 1, x3, i2 =>
  bif decide (i2 < (a_1.Aj.length : Int)) then
   (idx a_1.Aj i2).bind fun y2 =>
   (appS x3 ([y2.Bb] : List ByteArray)).bind fun x4 =>
   qcY a_1 n x4 (W64 (i2 + 1))
  else
   some (x3, i2)
def qc4 (a_1 : qd) : Nat → (List ByteArray) → Int → Option ((List ByteArray) × Int)
 | 0, _, _ => none
 | n + 1, x1, i1 =>
  bif decide (i1 < (a_1.Aa.length : Int)) then
   (idx a_1.Aa i1).bind fun y1 =>
   (appS x1 ([y1.Bb] : List ByteArray)).bind fun x2 =>
   qc4 a_1 n x2 (W64 (i1 + 1))
  else
   some (x1, i1)
def qiP (n : Nat) (a_0 : qp) (a_1 : qd) : Option Bool :=
 (
  (qhP n a_0).bind fun r4 =>
  bif (!r4) then some true else
  bif decide ((a_1.Aa.length : Int) > 14) then some true else
  bif decide ((a_1.Am.length : Int) > 30) then some true else
  bif decide ((a_1.Aj.length : Int) > 8) then some true else
  (qiH n a_0 a_1).bind fun r5 =>
  some (!r5)).bind fun b1 =>
 bif b1 then some false else
 (qc4 a_1 n ([] : List ByteArray) 0).bind fun o => match o with
 | (x1, _) =>
  (qcY a_1 n ([] : List ByteArray) 0).bind fun o => match o with
  | (x3, _) =>
   (
    (qfX n x1).bind fun r1 =>
    bif (!r1) then some true else
    (qfX n x3).bind fun r2 =>
    bif (!r2) then some true else
    (qfX n a_1.Am).bind fun r3 =>
    some (!r3)).bind fun b4 =>
   bif b4 then some false else
   (mkS (a_1.Am.length : Int) (0 : Int)).bind fun x5 =>
   (qcT a_1 n x5 0).bind fun o => match o with
   | (x6, _) =>
    (qcb a_1 n x6 0).bind fun o => match o with
    | (x7, _) =>
     (qdU x5 x7 n 0).bind fun o => match o with
     | .ret r => some r
     | .nxt _ =>
      some true
theorem qoF {a_0 : qp} {a_1 : qd} (ha1 : GoT.R w (old w) a_0 cs1) (ha2 : GoT.R w (old w) a_1 cs2) {r : Bool} (hF : qiP n a_0 a_1 = some r) : RetV Tryz.prog 124 [GoT.v qp cs1, GoT.v qd cs2] w r := by
 obtain ⟨p1, k1, rfl, s1⟩ := qbs ha1
 obtain ⟨p2, k2, p3, k3, p4, k4, rfl, s2, s3, s4⟩ := qat ha2
 refine zV 153 Tryz.func124 rfl fun h => zSR (qt h rfl rfl fun w1 bb1 h => qt h rfl rfl fun w2 bb2 h => X0 4 rfl ?_)
 obtain ⟨KF2, hKF2, o7, hF, hK7⟩ := bindE hF
 refine qbi (fun e w' => ∃ (b1 : Bool), KF2 b1 = some r ∧ e = [(3, .pointer (some ⟨bb2, 0, none⟩)), (40, .bool b1)] ∧ SH w w' [Ch.box bb2 (qaH a_1 p2 p3 p4 k2 k3 k4) 47]) ?_ ?_
 ·refine X1 2 1 h rfl (zcB h hF (qnC (h.old ha1)) rfl fun r4 w21 h hF => zp2 rfl (qi (t := 17) hF rfl ?_ ?_)) <;> intro hF
  ·refine X0 24 rfl ?_
   replace h := h.pick [0] rfl
   obtain rfl := qb hF
   exact rG ⟨_, hK7, rfl, h⟩ rfl
  refine X1 10 0 h rfl (qi (t := 23) hF rfl ?_ ?_) <;> intro hF
  ·refine X0 18 rfl ?_
   replace h := h.pick [0] rfl
   obtain rfl := qb hF
   exact rG ⟨_, hK7, rfl, h⟩ rfl
  refine X1 10 0 h rfl (qi (t := 29) hF rfl ?_ ?_) <;> intro hF
  ·refine X0 12 rfl ?_
   replace h := h.pick [0] rfl
   obtain rfl := qb hF
   exact rG ⟨_, hK7, rfl, h⟩ rfl
  refine X1 10 0 h rfl (qi (t := 35) hF rfl ?_ ?_) <;> intro hF
  ·refine X0 6 rfl ?_
   replace h := h.pick [0] rfl
   obtain rfl := qb hF
   exact rG ⟨_, hK7, rfl, h⟩ rfl
  refine X2 5 1 0 h rfl (zcB h hF (qoj (h.old ha1) (h.old ha2)) rfl fun r5 w22 h hF => X0 4 rfl ?_)
  replace h := h.pick [0] rfl
  obtain rfl := qb hF
  exact rG ⟨_, hK7, rfl, h⟩ rfl
 rintro e7 w23 ⟨b1, hF, rfl, h⟩
 subst hKF2
 refine qg rfl hF ?_ ?_ <;> intro hF
 ·exact X0 4 rfl (rb h hF rfl)
 refine zKSR (qJ qa [] _ ([] : List ByteArray) h rfl rfl rfl rfl rfl rfl rfl rfl rfl trivial rfl fun w3 p5 S1 h => X0 7 rfl ?_)
 obtain ⟨o1, hF, hK1⟩ := qc hF
 refine ql (rL (fun m e w' => ∃ (S2 : Nat → Prop) (p6 : Option Addr) (ln1 : Nat) (k5 : Nat) (x1 : (List ByteArray)) (i1 : Int), qc4 a_1 m x1 i1 = some o1 ∧ e = [(3, .pointer (some ⟨bb2, 0, none⟩)), (5, .slice p6 ln1 k5), (6, .int .i64 i1)] ∧ SH w w' [Ch.own S2 (x1 : List ByteArray) [.slice p6 ln1 k5], Ch.box bb2 (qaH a_1 p2 p3 p4 k2 k3 k4) 47]) n ⟨_, _, _, _, _, _, hF, rfl, h⟩ rfl ?_)
 rintro m1 e1 w4 ⟨S2, p6, ln1, k5, x1, i1, hF, rfl, h⟩
 obtain rfl := (h.sl 0 rfl).2
 rcases m1 with _ | m1
 ·cases hF
 refine X1 9 1 h rfl (qg rfl hF ?_ ?_) <;> intro hF
 ·refine X1 8 1 h rfl ?_
  obtain ⟨y1, hy1, hF, he1, b2, _, q1, cs3, hp1, hq1, hr1, hc3⟩ := s2.ix hF
  obtain ⟨p7, k6, rfl, s5⟩ := qM hr1
  refine zxe hp1 hq1 he1 rfl (zp1 rfl (zc 0 (hc3.below h.below) rfl (qJ qa [.tmp 55] _ ([y1.Bb] : List ByteArray) h rfl rfl rfl rfl rfl rfl rfl rfl rfl ⟨rfl, trivial⟩ rfl fun w5 p8 S3 h => ?_)))
  obtain ⟨x2, hx1, hF⟩ := qc hF
  obtain ⟨g1, hx1⟩ := qax hx1
  refine qct qa 1 h rfl (h.sl 0 rfl).1 (h.sl 0 rfl).2 rfl rfl rfl rfl rfl rfl rfl rfl rfl g1 hx1 rfl fun w6 p9 k7 S4 h => X0 8 rfl ?_
  replace h := h.pick [1, 2] rfl
  exact rK ⟨_, _, _, _, _, _, hF, rfl, h⟩ rfl
 refine qr rfl ?_
 obtain rfl := qb hF; replace hF := hK1
 refine zSR (qJ qa [] _ ([] : List ByteArray) h rfl rfl rfl rfl rfl rfl rfl rfl rfl trivial rfl fun w7 p10 S5 h => X0 7 rfl ?_)
 obtain ⟨o2, hF, hK2⟩ := qc hF
 refine ql (rL (fun m e w' => ∃ (S6 : Nat → Prop) (p11 : Option Addr) (ln2 : Nat) (k8 : Nat) (x3 : (List ByteArray)) (i2 : Int), qcY a_1 m x3 i2 = some o2 ∧ e = [(3, .pointer (some ⟨bb2, 0, none⟩)), (5, .slice p6 x1.length k5), (7, .slice p11 ln2 k8), (8, .int .i64 i2)] ∧ SH w w' [Ch.own S6 (x3 : List ByteArray) [.slice p11 ln2 k8], Ch.own S2 (x1 : List ByteArray) [.slice p6 x1.length k5], Ch.box bb2 (qaH a_1 p2 p3 p4 k2 k3 k4) 47]) n ⟨_, _, _, _, _, _, hF, rfl, h⟩ rfl ?_)
 rintro m2 e2 w8 ⟨S6, p11, ln2, k8, x3, i2, hF, rfl, h⟩
 obtain rfl := (h.sl 0 rfl).2
 rcases m2 with _ | m2
 ·cases hF
 refine X1 9 2 h rfl (qg rfl hF ?_ ?_) <;> intro hF
 ·refine X1 8 2 h rfl ?_
  obtain ⟨y2, hy2, hF, he2, b3, _, q2, cs4, hp2, hq2, hr2, hc5⟩ := s4.ix hF
  obtain rfl := qa5 hr2
  refine zxe hp2 hq2 he2 rfl (zp1 rfl (zc 0 (hc5.below h.below) rfl (qJ qa [.tmp 72] _ ([y2.Bb] : List ByteArray) h rfl rfl rfl rfl rfl rfl rfl rfl rfl ⟨rfl, trivial⟩ rfl fun w9 p12 S7 h => ?_)))
  obtain ⟨x4, hx2, hF⟩ := qc hF
  obtain ⟨g2, hx2⟩ := qax hx2
  refine qct qa 1 h rfl (h.sl 0 rfl).1 (h.sl 0 rfl).2 rfl rfl rfl rfl rfl rfl rfl rfl rfl g2 hx2 rfl fun w10 p13 k9 S8 h => X0 8 rfl ?_
  replace h := h.pick [1, 2, 3] rfl
  exact rK ⟨_, _, _, _, _, _, hF, rfl, h⟩ rfl
 refine qr rfl ?_
 obtain rfl := qb hF; replace hF := hK2
 refine zSS ?_
 obtain ⟨KF1, hKF1, o6, hF, hK6⟩ := bindE hF
 refine qbi (fun e w' => ∃ (b4 : Bool), KF1 b4 = some r ∧ e = [(3, .pointer (some ⟨bb2, 0, none⟩)), (88, .bool b4)] ∧ SH w w' [Ch.box bb2 (qaH a_1 p2 p3 p4 k2 k3 k4) 47]) ?_ ?_
 ·refine X0 2 rfl (zcB h hF (qio (h.own 1 rfl)) rfl fun r1 w17 h hF => zp2 rfl (qi (t := 78) hF rfl ?_ ?_)) <;> intro hF
  ·refine X0 11 rfl ?_
   replace h := h.pick [2] rfl
   obtain rfl := qb hF
   exact rG ⟨_, hK6, rfl, h⟩ rfl
  refine X0 3 rfl (zcB h hF (qio (h.own 0 rfl)) rfl fun r2 w18 h hF => X0 4 rfl (qi (t := 83) hF rfl ?_ ?_)) <;> intro hF
  ·refine X0 6 rfl ?_
   replace h := h.pick [2] rfl
   obtain rfl := qb hF
   exact rG ⟨_, hK6, rfl, h⟩ rfl
  refine X1 5 2 h rfl (zcB h hF (qio ⟨_, _, rfl, (h.oldS s3)⟩) rfl fun r3 w19 h hF => X0 4 rfl ?_)
  replace h := h.pick [2] rfl
  obtain rfl := qb hF
  exact rG ⟨_, hK6, rfl, h⟩ rfl
 rintro e6 w20 ⟨b4, hF, rfl, h⟩
 subst hKF1
 refine qg rfl hF ?_ ?_ <;> intro hF
 ·exact X0 4 rfl (rb h hF rfl)
 refine X1 6 0 h rfl ?_
 obtain ⟨x5, hx3, hF⟩ := qc hF
 obtain ⟨g3, g4, hx3⟩ := qN hx3
 refine qah qa Int h rfl rfl rfl rfl rfl rfl rfl rfl rfl g3 g4 hx3 rfl fun w11 S9 p14 h => X0 7 rfl ?_
 obtain ⟨o3, hF, hK3⟩ := qc hF
 refine ql (rL (fun m e w' => ∃ (x6 : (List Int)) (i3 : Int), qcT a_1 m x6 i3 = some o3 ∧ e = [(3, .pointer (some ⟨bb2, 0, none⟩)), (9, .slice p14 x5.length x5.length), (10, .int .i64 i3)] ∧ SH w w' [Ch.own S9 (x6 : List Int) [.slice p14 x5.length x5.length], Ch.box bb2 (qaH a_1 p2 p3 p4 k2 k3 k4) 47]) n ⟨_, _, hF, rfl, h⟩ rfl ?_)
 rintro m3 e3 w12 ⟨x6, i3, hF, rfl, h⟩
 rcases m3 with _ | m3
 ·cases hF
 refine X1 9 1 h rfl (qg rfl hF ?_ ?_) <;> intro hF
 ·refine X1 8 1 h rfl ?_
  obtain ⟨y3, hy3, hF, he3, b5, _, q3, cs5, hp3, hq3, hr3, hc8⟩ := s2.ix hF
  obtain ⟨p15, k10, rfl, s6⟩ := qM hr3
  refine zxe hp3 hq3 he3 rfl (zp1 rfl (zc 2 (hc8.below h.below) rfl (X0 8 rfl ?_)))
  obtain ⟨y4, hy4, hF, he4, b6, _, q4, cs6, hp4, hq4, rfl, hc9⟩ := s6.ix hF
  refine zxe hp4 hq4 he4 rfl (zc 0 (hc9.below h.below) rfl ?_)
  obtain ⟨y5, hy5, hF, he5, b7, _, q5, cs7, hp5, hq5, rfl, hc10⟩ := (h.sl 0 rfl).1.ix hF
  refine zx hp5 hq5 ⟨he5.1, qU he5.2.1 (h.sl 0 rfl).2⟩ rfl (zc 0 hc10 rfl (zp1 rfl ?_))
  obtain ⟨y6, hy6, hF, he6, b8, _, q6, cs8, hp6, hq6, rfl, hc11⟩ := (h.sl 0 rfl).1.ix hF
  exact zx hp6 hq6 ⟨he6.1, qU he6.2.1 (h.sl 0 rfl).2⟩ rfl (qbr qa 0 0 (W64 (y5 + 1)) h rfl hy6 hp6 hq6 rfl hc11 rfl rfl rfl rfl rfl rfl rfl fun w13 h => X0 7 rfl (rK ⟨_, _, hF, rfl, h⟩ rfl))
 refine qr rfl ?_
 obtain rfl := qb hF; replace hF := hK3
 refine X0 5 rfl ?_
 obtain ⟨o4, hF, hK4⟩ := qc hF
 refine ql (rL (fun m e w' => ∃ (x7 : (List Int)) (i4 : Int), qcb a_1 m x7 i4 = some o4 ∧ e = [(3, .pointer (some ⟨bb2, 0, none⟩)), (9, .slice p14 x5.length x5.length), (12, .int .i64 i4)] ∧ SH w w' [Ch.own S9 (x7 : List Int) [.slice p14 x5.length x5.length], Ch.box bb2 (qaH a_1 p2 p3 p4 k2 k3 k4) 47]) n ⟨_, _, hF, rfl, h⟩ rfl ?_)
 rintro m4 e4 w14 ⟨x7, i4, hF, rfl, h⟩
 rcases m4 with _ | m4
 ·cases hF
 refine X1 9 1 h rfl (qg rfl hF ?_ ?_) <;> intro hF
 ·refine X1 8 1 h rfl ?_
  obtain ⟨y7, hy7, hF, he7, b9, _, q7, cs9, hp7, hq7, hr7, hc13⟩ := s4.ix hF
  obtain rfl := qa5 hr7
  refine zxe hp7 hq7 he7 rfl (zp1 rfl (zc 1 (hc13.below h.below) rfl (X0 2 rfl (qg rfl hF ?_ ?_)))) <;> intro hF
  ·refine X1 5 1 h rfl ?_
   obtain ⟨y8, hy8, hF, he8, b10, _, q8, cs10, hp8, hq8, hr8, hc15⟩ := s4.ix hF
   obtain rfl := qa5 hr8
   refine zxe hp8 hq8 he8 rfl (zp1 rfl (zc 2 (hc15.below h.below) rfl ?_))
   obtain ⟨y9, hy9, hF, he9, b11, _, q9, cs11, hp9, hq9, rfl, hc16⟩ := (h.sl 0 rfl).1.ix hF
   refine zx hp9 hq9 ⟨he9.1, qU he9.2.1 (h.sl 0 rfl).2⟩ rfl (zc 0 hc16 rfl (zp1 rfl ?_))
   obtain ⟨y10, hy10, hF, he10, b12, _, q10, cs12, hp10, hq10, rfl, hc17⟩ := (h.sl 0 rfl).1.ix hF
   exact zx hp10 hq10 ⟨he10.1, qU he10.2.1 (h.sl 0 rfl).2⟩ rfl (qbr qa 0 0 (W64 (y9 + 1)) h rfl hy10 hp10 hq10 rfl hc17 rfl rfl rfl rfl rfl rfl rfl fun w15 h => X0 7 rfl (rK ⟨_, _, hF, rfl, h⟩ rfl))
  exact X0 7 rfl (rK ⟨_, _, hF, rfl, h⟩ rfl)
 refine qr rfl ?_
 obtain rfl := qb hF; replace hF := hK4
 refine X0 5 rfl ?_
 obtain ⟨o5, hF, hK5⟩ := qc hF
 refine ql ?_
 replace h := h.pick [0] rfl
 refine rL (fun m e w' => ∃ (i5 : Int), qdU x5 x7 m i5 = some o5 ∧ e = [(9, .slice p14 x5.length x5.length), (13, .int .i64 i5)] ∧ SH w w' [Ch.own S9 (x7 : List Int) [.slice p14 x5.length x5.length]]) n ⟨_, hF, rfl, h⟩ rfl ?_
 rintro m5 e5 w16 ⟨i5, hF, rfl, h⟩
 rcases m5 with _ | m5
 ·cases hF
 refine X0 8 rfl (qg rfl hF ?_ ?_) <;> intro hF
 ·refine X0 7 rfl ?_
  obtain ⟨y11, hy11, hF, he11, b13, _, q11, cs13, hp11, hq11, rfl, hc19⟩ := (h.sl 0 rfl).1.ix hF
  refine zx hp11 hq11 ⟨he11.1, qU he11.2.1 (h.sl 0 rfl).2⟩ rfl (zc 0 hc19 rfl (X0 2 rfl (qg rfl hF ?_ ?_))) <;> intro hF
  ·refine X0 4 rfl ?_
   obtain rfl := qb hF; replace hF := hK5
   exact rb h hF rfl
  exact X0 7 rfl (rK ⟨_, hF, rfl, h⟩ rfl)
 refine qr rfl ?_
 obtain rfl := qb hF; replace hF := hK5
 exact X0 4 rfl (rb h hF rfl)
def qfc (a_0 : qP) : Nat → Int → Option (Flow Bool Int)
 | 0, _ => none
 | n + 1, i2 =>
  bif decide (i2 < (a_0.Bl.length : Int)) then
   (idx a_0.Bl i2).bind fun y7 =>
   (qaq n y7 0 (W64 ((a_0.Ak.length : Int) - 1))).bind fun r5 =>
   bif (!r5) then some (.ret false) else
   qfc a_0 n (W64 (i2 + 1))
  else
   some (.nxt i2)
def qcy (a_0 : qP) : Nat → Int → Option (Flow Bool Int)
 | 0, _ => none
 | n + 1, i1 =>
  bif decide (i1 < (a_0.Ak.length : Int)) then
   (
    (idx a_0.Bt i1).bind fun y5 =>
    (qaq n y5 0 500).bind fun r3 =>
    bif (!r3) then some true else
    (idx a_0.Bw i1).bind fun y6 =>
    (qaq n y6 0 1000).bind fun r4 =>
    some (!r4)).bind fun b2 =>
   bif b2 then some (.ret false) else
   bif (i1 == 0) then
    (idx a_0.Ak i1).bind fun y1 =>
    bif (y1 != (-1)) then some (.ret false) else
    (idx a_0.Bw i1).bind fun y2 =>
    bif (y2 != 0) then some (.ret false) else
    bif decide (i1 > 0) then
     (idx a_0.Ak i1).bind fun y3 =>
     (qaq n y3 0 (W64 (i1 - 1))).bind fun r1 =>
     bif (!r1) then some (.ret false) else
     qcy a_0 n (W64 (i1 + 1))
    else
     qcy a_0 n (W64 (i1 + 1))
   else
    bif decide (i1 > 0) then
     (idx a_0.Ak i1).bind fun y4 =>
     (qaq n y4 0 (W64 (i1 - 1))).bind fun r2 =>
     bif (!r2) then some (.ret false) else
     qcy a_0 n (W64 (i1 + 1))
    else
     qcy a_0 n (W64 (i1 + 1))
  else
   some (.nxt i1)
def qkt (n : Nat) (a_0 : qP) (a_1 : Int) : Option Bool :=
 (
  bif decide ((a_0.Ak.length : Int) < 1) then some true else
  bif decide ((a_0.Ak.length : Int) > 8) then some true else
  bif ((a_0.Bw.length : Int) != (a_0.Ak.length : Int)) then some true else
  bif ((a_0.Bt.length : Int) != (a_0.Ak.length : Int)) then some true else
  some ((a_0.Bl.length : Int) != a_1)).bind fun b1 =>
 bif b1 then some false else
 (qcy a_0 n 0).bind fun o => match o with
 | .ret r => some r
 | .nxt _ =>
  (qfc a_0 n 0).bind fun o => match o with
  | .ret r => some r
  | .nxt _ =>
   some true
theorem qpX {a_0 : qP} {a_1 : Int} (ha1 : GoT.R w (old w) a_0 cs1) {r : Bool} (hF : qkt n a_0 a_1 = some r) : RetV Tryz.prog 125 [GoT.v qP cs1, .int .i64 a_1] w r := by
 obtain ⟨p1, k1, p2, k2, p3, k3, p4, k4, rfl, s1, s2, s3, s4⟩ := qaK ha1
 refine zV 108 Tryz.func125 rfl fun h => zSR (qt h rfl rfl fun w1 bb1 h => X1 11 0 h rfl ?_)
 obtain ⟨KF2, hKF2, o4, hF, hK4⟩ := bindE hF
 refine qbi (fun e w' => ∃ (b1 : Bool), KF2 b1 = some r ∧ e = [(2, .pointer (some ⟨bb1, 0, none⟩)), (5, .int .i64 (a_0.Ak.length : Int)), (37, .bool b1)] ∧ SH w w' [Ch.box bb1 (qf6 a_0 p1 p2 p3 p4 k1 k2 k3 k4) 186]) ?_ ?_
 ·refine X0 4 rfl (qi (t := 13) hF rfl ?_ ?_) <;> intro hF
  ·refine X0 25 rfl ?_
   obtain rfl := qb hF
   exact rG ⟨_, hK4, rfl, h⟩ rfl
  refine X0 6 rfl (qi (t := 17) hF rfl ?_ ?_) <;> intro hF
  ·refine X0 21 rfl ?_
   obtain rfl := qb hF
   exact rG ⟨_, hK4, rfl, h⟩ rfl
  refine X1 12 0 h rfl (qi (t := 24) hF rfl ?_ ?_) <;> intro hF
  ·refine X0 14 rfl ?_
   obtain rfl := qb hF
   exact rG ⟨_, hK4, rfl, h⟩ rfl
  refine X1 12 0 h rfl (qi (t := 31) hF rfl ?_ ?_) <;> intro hF
  ·refine X0 7 rfl ?_
   obtain rfl := qb hF
   exact rG ⟨_, hK4, rfl, h⟩ rfl
  refine X1 12 0 h rfl ?_
  obtain rfl := qb hF
  exact rG ⟨_, hK4, rfl, h⟩ rfl
 rintro e4 w10 ⟨b1, hF, rfl, h⟩
 subst hKF2
 refine qg rfl hF ?_ ?_ <;> intro hF
 ·exact X0 4 rfl (rb h hF rfl)
 refine X0 6 rfl ?_
 obtain ⟨o1, hF, hK1⟩ := qc hF
 refine ql (rL (fun m e w' => ∃ (i1 : Int), qcy a_0 m i1 = some o1 ∧ e = [(2, .pointer (some ⟨bb1, 0, none⟩)), (5, .int .i64 (a_0.Ak.length : Int)), (6, .int .i64 i1)] ∧ SH w w' [Ch.box bb1 (qf6 a_0 p1 p2 p3 p4 k1 k2 k3 k4) 186]) n ⟨_, hF, rfl, h⟩ rfl ?_)
 rintro m1 e1 w2 ⟨i1, hF, rfl, h⟩
 rcases m1 with _ | m1
 ·cases hF
 refine X0 7 rfl (qg rfl hF ?_ ?_) <;> intro hF
 ·refine X0 5 rfl ?_
  obtain ⟨KF1, hKF1, o2, hF, hK2⟩ := bindE hF
  refine qbi (fun e w' => ∃ (b2 : Bool), KF1 b2 = some o1 ∧ e = [(2, .pointer (some ⟨bb1, 0, none⟩)), (5, .int .i64 (a_0.Ak.length : Int)), (6, .int .i64 i1), (58, .bool b2)] ∧ SH w w' [Ch.box bb1 (qf6 a_0 p1 p2 p3 p4 k1 k2 k3 k4) 186]) ?_ ?_
  ·refine X1 4 0 h rfl ?_
   obtain ⟨y5, hy5, hF, he5, b7, _, q5, cs6, hp5, hq5, rfl, hc10⟩ := s3.ix hF
   refine zxe hp5 hq5 he5 rfl (zc 0 (hc10.below h.below) rfl (zcB h hF qac rfl fun r3 w5 h hF => zp2 rfl (qi (t := 50) hF rfl ?_ ?_))) <;> intro hF
   ·refine X0 9 rfl ?_
    obtain rfl := qb hF
    exact rG ⟨_, hK2, rfl, h⟩ rfl
   refine X1 7 0 h rfl ?_
   obtain ⟨y6, hy6, hF, he6, b8, _, q6, cs7, hp6, hq6, rfl, hc11⟩ := s2.ix hF
   refine zxe hp6 hq6 he6 rfl (X0 1 rfl (zc 0 (hc11.below h.below) rfl (X0 1 rfl (zcB h hF qac rfl fun r4 w6 h hF => X0 4 rfl ?_))))
   obtain rfl := qb hF
   exact rG ⟨_, hK2, rfl, h⟩ rfl
  rintro e2 w7 ⟨b2, hF, rfl, h⟩
  subst hKF1
  refine qg rfl hF ?_ ?_ <;> intro hF
  ·refine X0 4 rfl ?_
   obtain rfl := qb hF; replace hF := hK1
   exact rb h hF rfl
  refine X0 6 rfl (qi (t := 61) hF rfl ?_ ?_) <;> intro hF
  ·refine X1 7 0 h rfl ?_
   obtain ⟨y1, hy1, hF, he1, b3, _, q1, cs2, hp1, hq1, rfl, hc4⟩ := s1.ix hF
   refine zxe hp1 hq1 he1 rfl (X0 1 rfl (zc 0 (hc4.below h.below) rfl (X0 4 rfl (qi (t := 68) hF rfl ?_ ?_)))) <;> intro hF
   ·refine X0 25 rfl (qbT rfl rfl (X0 4 rfl ?_))
    obtain rfl := qb hF; replace hF := hK1
    exact rb h hF rfl
   refine X1 7 0 h rfl ?_
   obtain ⟨y2, hy2, hF, he2, b4, _, q2, cs3, hp2, hq2, rfl, hc5⟩ := s2.ix hF
   refine zxe hp2 hq2 he2 rfl (X0 1 rfl (zc 0 (hc5.below h.below) rfl (X0 6 rfl (qi (t := 77) hF rfl ?_ ?_)))) <;> intro hF
   ·refine X0 15 rfl (qbT rfl rfl (X0 4 rfl ?_))
    obtain rfl := qb hF; replace hF := hK1
    exact rb h hF rfl
   refine X0 6 rfl (qi (t := 80) hF rfl ?_ ?_) <;> intro hF
   ·refine X1 7 0 h rfl ?_
    obtain ⟨y3, hy3, hF, he3, b5, _, q3, cs4, hp3, hq3, rfl, hc6⟩ := s1.ix hF
    refine zxe hp3 hq3 he3 rfl (X0 1 rfl (zc 0 (hc6.below h.below) rfl (X0 5 rfl (zcB h hF qac rfl fun r1 w3 h hF => X0 6 rfl (qg rfl hF ?_ ?_))))) <;> intro hF
    ·refine X0 4 rfl ?_
     obtain rfl := qb hF; replace hF := hK1
     exact rb h hF rfl
    exact X0 7 rfl (rK ⟨_, hF, rfl, h⟩ rfl)
   exact X0 13 rfl (qbQ rfl rfl (X0 7 rfl (rK ⟨_, hF, rfl, h⟩ rfl)))
  refine X0 22 rfl (qi (t := 80) hF rfl ?_ ?_) <;> intro hF
  ·refine X1 7 0 h rfl ?_
   obtain ⟨y4, hy4, hF, he4, b6, _, q4, cs5, hp4, hq4, rfl, hc8⟩ := s1.ix hF
   refine zxe hp4 hq4 he4 rfl (X0 1 rfl (zc 0 (hc8.below h.below) rfl (X0 5 rfl (zcB h hF qac rfl fun r2 w4 h hF => X0 6 rfl (qg rfl hF ?_ ?_))))) <;> intro hF
   ·refine X0 4 rfl ?_
    obtain rfl := qb hF; replace hF := hK1
    exact rb h hF rfl
   exact X0 7 rfl (rK ⟨_, hF, rfl, h⟩ rfl)
  exact X0 13 rfl (qbQ rfl rfl (X0 7 rfl (rK ⟨_, hF, rfl, h⟩ rfl)))
 refine qr rfl ?_
 obtain rfl := qb hF; replace hF := hK1
 refine X0 5 rfl ?_
 obtain ⟨o3, hF, hK3⟩ := qc hF
 refine ql (rL (fun m e w' => ∃ (i2 : Int), qfc a_0 m i2 = some o3 ∧ e = [(2, .pointer (some ⟨bb1, 0, none⟩)), (5, .int .i64 (a_0.Ak.length : Int)), (7, .int .i64 i2)] ∧ SH w w' [Ch.box bb1 (qf6 a_0 p1 p2 p3 p4 k1 k2 k3 k4) 186]) n ⟨_, hF, rfl, h⟩ rfl ?_)
 rintro m2 e3 w8 ⟨i2, hF, rfl, h⟩
 rcases m2 with _ | m2
 ·cases hF
 refine X1 9 0 h rfl (qg rfl hF ?_ ?_) <;> intro hF
 ·refine X1 8 0 h rfl ?_
  obtain ⟨y7, hy7, hF, he7, b9, _, q7, cs8, hp7, hq7, rfl, hc13⟩ := s4.ix hF
  refine zxe hp7 hq7 he7 rfl (zc 0 (hc13.below h.below) rfl (zp2 rfl (zcB h hF qac rfl fun r5 w9 h hF => X0 2 rfl (qg rfl hF ?_ ?_)))) <;> intro hF
  ·refine X0 4 rfl ?_
   obtain rfl := qb hF; replace hF := hK3
   exact rb h hF rfl
  exact X0 7 rfl (rK ⟨_, hF, rfl, h⟩ rfl)
 refine qr rfl ?_
 obtain rfl := qb hF; replace hF := hK3
 exact X0 4 rfl (rb h hF rfl)
def qep (b : qf) : Nat → Int → Option (Flow Bool Int)
 | 0, _ => none
 | n + 1, i1 =>
  bif decide (i1 < (b.Ac.length : Int)) then
   (idx b.Ac i1).bind fun y1 =>
   (qfR n (⟨b.Ab.Aa, b.Ab.Am, b.Ab.Aj⟩ : qd) i1).bind fun r1 =>
   (qkt n y1 (r1.length : Int)).bind fun r2 =>
   bif (!r2) then some (.ret false) else
   qep b n (W64 (i1 + 1))
  else
   some (.nxt i1)
def qgL (n : Nat) (b : qf) : Option Bool :=
 (
  (qiP n (⟨b.Av.Aq⟩ : qp) (⟨b.Ab.Aa, b.Ab.Am, b.Ab.Aj⟩ : qd)).bind fun r3 =>
  bif (!r3) then some true else
  some ((b.Ac.length : Int) != (b.Ab.Am.length : Int))).bind fun b1 =>
 bif b1 then some false else
 (qep b n 0).bind fun o => match o with
 | .ret r => some r
 | .nxt _ =>
  some true
theorem ql0 {b : qf} (ha1 : GoT.R w (old w) b cs1) {r : Bool} (hF : qgL n b = some r) : RetV Tryz.prog 73 [GoT.v qf cs1] w r := by
 obtain ⟨p1, k1, p2, k2, p3, k3, p4, k4, p5, k5, rfl, s1, s2, s3, s4, s5⟩ := qZ ha1
 refine zV 39 Tryz.func73 rfl fun h => zSR (qt h rfl rfl fun w1 bb1 h => X0 4 rfl ?_)
 obtain ⟨KF1, hKF1, o2, hF, hK2⟩ := bindE hF
 refine qbi (fun e w' => ∃ (b1 : Bool), KF1 b1 = some r ∧ e = [(1, .pointer (some ⟨bb1, 0, none⟩)), (19, .bool b1)] ∧ SH w w' [Ch.box bb1 (qaO b p1 p2 p3 p4 p5 k1 k2 k3 k4 k5) 50]) ?_ ?_
 ·refine X2 5 0 0 h rfl (zcB h hF (qoF (qdH _ (h.oldS s1)) (qan _ (h.oldS s2) (h.oldS s3) (h.oldS s4))) rfl fun r3 w6 h hF => zp2 rfl (qi (t := 10) hF rfl ?_ ?_)) <;> intro hF
  ·refine X0 10 rfl ?_
   obtain rfl := qb hF
   exact rG ⟨_, hK2, rfl, h⟩ rfl
  refine X2 18 0 0 h rfl ?_
  obtain rfl := qb hF
  exact rG ⟨_, hK2, rfl, h⟩ rfl
 rintro e2 w7 ⟨b1, hF, rfl, h⟩
 subst hKF1
 refine qg rfl hF ?_ ?_ <;> intro hF
 ·exact X0 4 rfl (rb h hF rfl)
 refine X0 6 rfl ?_
 obtain ⟨o1, hF, hK1⟩ := qc hF
 refine ql (rL (fun m e w' => ∃ (i1 : Int), qep b m i1 = some o1 ∧ e = [(1, .pointer (some ⟨bb1, 0, none⟩)), (3, .int .i64 i1)] ∧ SH w w' [Ch.box bb1 (qaO b p1 p2 p3 p4 p5 k1 k2 k3 k4 k5) 50]) n ⟨_, hF, rfl, h⟩ rfl ?_)
 rintro m1 e1 w2 ⟨i1, hF, rfl, h⟩
 rcases m1 with _ | m1
 ·cases hF
 refine X1 9 0 h rfl (qg rfl hF ?_ ?_) <;> intro hF
 ·refine X0 4 rfl (rA [] [0] h rfl fun w3 h => M1 7 [0, 1, 2] 0 (h.pick [0] rfl) rfl ?_)
  obtain ⟨y1, hy1, hF, he1, b2, _, q1, cs2, hp1, hq1, hr1, hc3⟩ := s5.ix hF
  obtain ⟨p6, k6, p7, k7, p8, k8, p9, k9, rfl, s6, s7, s8, s9⟩ := qaK hr1
  refine Ae 3 15 hp1 hq1 he1 (h.pick [0] rfl) rfl (Al 4 31 0 hc3 (h.pick [0] rfl) rfl (M1 255 [5, 6, 7] 0 (h.pick [0] rfl) rfl (Ao 8 511 rfl (zcL h hF (qix (qan _ (h.oldS s2) (h.oldS s3) (h.oldS s4))) rfl fun r1 w4 S1 p10 k10 h hF => G0 1023 [9] (h.pick [1] rfl) rfl (Ao 10 2047 rfl (zcB h hF (qpX (qjO y1 (h.oldS s6) (h.oldS s7) (h.oldS s8) (h.oldS s9))) rfl fun r2 w5 h hF => G0 4095 [11] (h.pick [1] rfl) rfl (Ad (qg rfl hF ?_ ?_)))))))) <;> intro hF
  ·refine X0 4 rfl ?_
   obtain rfl := qb hF; replace hF := hK1
   exact rb h hF rfl
  refine X0 7 rfl ?_
  replace h := h.pick [1] rfl
  exact rK ⟨_, hF, rfl, h⟩ rfl
 refine qr rfl ?_
 obtain rfl := qb hF; replace hF := hK1
 exact X0 4 rfl (rb h hF rfl)
def qaF (_ : Nat) (x : Int) (low : Int) (high : Int) : Option Bool :=
 bif decide (x ≥ low) then some (decide (x ≤ high)) else
 some false
theorem qau {x : Int} {low : Int} {high : Int}  {r : Bool} (hF : qaF n x low high = some r) : RetV Tryz.prog 115 [.int .i64 x, .int .i64 low, .int .i64 high] w r := by
 refine zV 15 Tryz.func115 rfl fun h => X0 10 rfl (qi (t := 10) hF rfl ?_ ?_) <;> intro hF
 ·exact X0 9 rfl (rb h hF rfl)
 exact X0 6 rfl (rb h hF rfl)
def qik (_ : Nat) (s cutset : ByteArray) : Option ByteArray :=
 if s.size ≤ 9223372036854775807 ∧ cutset.size < 4294967281 ∧ cutset.data.toList.all (fun b => decide (b.toNat < 128)) = true then some ⟨(Lib.trimS s.data.toList cutset.data.toList).toArray⟩ else none
theorem qpt {s cutset : ByteArray} {r : ByteArray} (hF : qik n s cutset = some r) : RetV Tryz.prog 177 [.string s, .string cutset] w r := by
 unfold qik at hF
 split at hF
 ·rename_i hh
  obtain rfl := qb hF
  refine (Tryz.strings_Trim_any s cutset w hh.1 hh.2.1 hh.2.2).mono ?_
  rintro e w' ⟨rfl, hB⟩
  exact ⟨_, rfl, hB, [.string _], rfl, qx2 _ _⟩
 cases hF
def qf4 (_ : Nat) (s : ByteArray) (c : (IntK .u8)) : Option Int :=
 some (Lib.indexByte s.data.toList c.val.toNat.toUInt8)
theorem qme {s : ByteArray} {c : (IntK .u8)} {r : Int} (hF : qf4 n s c = some r) : RetV Tryz.prog 178 [.string s, .int .u8 c.val] w r := by
 obtain rfl := qb hF
 refine (Tryz.strings_IndexByte s c.val w).mono ?_
 rintro e w' ⟨rfl, rfl⟩
 exact ⟨_, rfl, Below.refl _ _, [.int .i64 _], rfl, qv9 _ _⟩
def qhD (n : Nat) (s : ByteArray) : Option Bool :=
 (qaF n (s.size : Int) 1 8).bind fun r1 =>
 bif r1 then
  (qik n s (⟨#[97, 98, 99, 100, 101, 102, 103, 104, 105, 106, 107, 108, 109, 110, 111, 112, 113, 114, 115, 116, 117, 118, 119, 120, 121, 122, 48, 49, 50, 51, 52, 53, 54, 55, 56, 57]⟩ : ByteArray)).bind fun r2 =>
  bif (r2.toList == (⟨#[]⟩ : ByteArray).toList) then
   (atS s 0).bind fun y1 =>
   (qf4 n (⟨#[97, 98, 99, 100, 101, 102, 103, 104, 105, 106, 107, 108, 109, 110, 111, 112, 113, 114, 115, 116, 117, 118, 119, 120, 121, 122]⟩ : ByteArray) (⟨y1⟩ : IntK .u8)).bind fun r3 =>
   some (decide (r3 ≥ 0))
  else
   some false
 else
  some false
theorem qjU {s : ByteArray}  {r : Bool} (hF : qhD n s = some r) : RetV Tryz.prog 137 [.string s] w r := by
 refine zV 17 Tryz.func137 rfl fun h => X0 8 rfl (zcB h hF qau rfl fun r1 w1 h hF => zp1 rfl (qi (t := 6) hF rfl ?_ ?_)) <;> intro hF
 ·refine X0 3 rfl (zcS h hF qpt rfl fun r2 w2 h hF => X0 4 rfl (qi (t := 11) hF rfl ?_ ?_)) <;> intro hF
  ·refine X0 3 rfl ?_
   obtain ⟨y1, hx1, hF⟩ := qc hF
   have g1 := qmq hx1
   exact r_v (qmf qa g1 rfl rfl rfl rfl) rfl (X0 1 rfl (zcI h hF qme rfl fun r3 w3 h hF => X0 5 rfl (rb h hF rfl)))
  exact X0 7 rfl (rb h hF rfl)
 exact X0 12 rfl (rb h hF rfl)
def qbM (s : (List ByteArray)) (v : ByteArray) : Nat → Int → Option (Flow Int Int)
 | 0, _ => none
 | n + 1, i1 =>
  bif decide (i1 < (s.length : Int)) then
   (idx s i1).bind fun y1 =>
   bif (v.toList == y1.toList) then some (.ret i1) else
   qbM s v n (W64 (i1 + 1))
  else
   some (.nxt i1)
def qeX (n : Nat) (s : (List ByteArray)) (v : ByteArray) : Option Int :=
 (qbM s v n 0).bind fun o => match o with
 | .ret r => some r
 | .nxt _ =>
  some (-1)
theorem qlI {s : (List ByteArray)} {v : ByteArray} (ha1 : GoT.R w (old w) s cs1) {r : Int} (hF : qeX n s v = some r) : RetV Tryz.prog 258 [GoT.v (List ByteArray) cs1, .string v] w r := by
 obtain ⟨p1, k1, rfl, s1⟩ := ha1
 refine zV 19 Tryz.func258 rfl fun h => X0 11 rfl ?_
 obtain ⟨o1, hF, hK1⟩ := qc hF
 refine ql (rL (fun m e w' => ∃ (i1 : Int), qbM s v m i1 = some o1 ∧ e = [(0, .slice p1 s.length k1), (1, .string v), (7, .int .i64 (s.length : Int)), (8, .int .i64 i1)] ∧ SH w w' []) n ⟨_, hF, rfl, h⟩ rfl ?_)
 rintro m1 e1 w1 ⟨i1, hF, rfl, h⟩
 rcases m1 with _ | m1
 ·cases hF
 refine X0 5 rfl (qg rfl hF ?_ ?_) <;> intro hF
 ·refine X0 13 rfl ?_
  obtain ⟨y1, hy1, hF, he1, b1, _, q1, cs2, hp1, hq1, rfl, hc2⟩ := s1.ix hF
  refine zxe hp1 hq1 he1 rfl (zc 0 (hc2.below h.below) rfl (X0 2 rfl (qg rfl hF ?_ ?_))) <;> intro hF
  ·refine X0 5 rfl ?_
   obtain rfl := qb hF; replace hF := hK1
   exact ri h hF rfl
  exact X0 6 rfl (rK ⟨_, hF, rfl, h⟩ rfl)
 refine qr rfl ?_
 obtain rfl := qb hF; replace hF := hK1
 exact X0 4 rfl (ri h hF rfl)
def qdI (n : Nat) (s : (List ByteArray)) (v : ByteArray) : Option Bool :=
 (qeX n s v).bind fun r1 =>
 some (decide (r1 ≥ 0))
theorem qkp {s : (List ByteArray)} {v : ByteArray} (ha1 : GoT.R w (old w) s cs1) {r : Bool} (hF : qdI n s v = some r) : RetV Tryz.prog 238 [GoT.v (List ByteArray) cs1, .string v] w r := by
 obtain ⟨p1, k1, rfl, s1⟩ := ha1
 exact zV 9 Tryz.func238 rfl fun h => X0 8 rfl (zcI h hF (qlI ⟨_, _, rfl, (h.oldS s1)⟩) rfl fun r1 w1 h hF => X0 3 rfl (rb h hF rfl))
def qdW (list : (List ByteArray)) : Nat → Int → Option (Flow Bool Int)
 | 0, _ => none
 | n + 1, i1 =>
  bif decide (i1 < (list.length : Int)) then
   (idx list i1).bind fun y1 =>
   (qhD n y1).bind fun r1 =>
   bif (!r1) then some (.ret false) else
   (subS list 0 i1).bind fun x1 =>
   (qdI n x1 y1).bind fun r2 =>
   bif r2 then some (.ret false) else
   qdW list n (W64 (i1 + 1))
  else
   some (.nxt i1)
def qdM (n : Nat) (list : (List ByteArray)) : Option Bool :=
 (qdW list n 0).bind fun o => match o with
 | .ret r => some r
 | .nxt _ =>
  some true
theorem qe4 {list : (List ByteArray)} (ha1 : GoT.R w (old w) list cs1) {r : Bool} (hF : qdM n list = some r) : RetV Tryz.prog 205 [GoT.v (List ByteArray) cs1] w r := by
 obtain ⟨p1, k1, rfl, s1⟩ := ha1
 refine zV 23 Tryz.func205 rfl fun h => X0 11 rfl ?_
 obtain ⟨o1, hF, hK1⟩ := qc hF
 refine ql (rL (fun m e w' => ∃ (i1 : Int), qdW list m i1 = some o1 ∧ e = [(0, .slice p1 list.length k1), (5, .slice p1 list.length k1), (6, .int .i64 (list.length : Int)), (7, .int .i64 i1)] ∧ SH w w' []) n ⟨_, hF, rfl, h⟩ rfl ?_)
 rintro m1 e1 w1 ⟨i1, hF, rfl, h⟩
 rcases m1 with _ | m1
 ·cases hF
 refine X0 5 rfl (qg rfl hF ?_ ?_) <;> intro hF
 ·refine X0 6 rfl ?_
  obtain ⟨y1, hy1, hF, he1, b1, _, q1, cs2, hp1, hq1, rfl, hc2⟩ := s1.ix hF
  refine zxe hp1 hq1 he1 rfl (zc 0 (hc2.below h.below) rfl (X0 6 rfl (zcB h hF qjU rfl fun r1 w2 h hF => zp2 rfl (qi (t := 15) hF rfl ?_ ?_)))) <;> intro hF
  ·refine X0 7 rfl (qbT rfl rfl (X0 4 rfl ?_))
   obtain rfl := qb hF; replace hF := hK1
   exact rb h hF rfl
  refine X0 5 rfl ?_
  obtain ⟨x1, hx1, hF⟩ := qc hF
  obtain ⟨p2, k2, hp2, hk1, hl1, g1⟩ := qwk (h.oldS s1) hx1
  refine r_v (qsD qa rfl rfl rfl (qvq g1 rfl) hp2 hk1 hl1 rfl rfl rfl rfl) rfl ?_
  have s2 := qvW s1 hx1 hp2 hk1
  refine X0 3 rfl (zcB h hF (qkp ⟨_, _, rfl, (h.oldS s2)⟩) rfl fun r2 w3 h hF => X0 2 rfl (qg rfl hF ?_ ?_)) <;> intro hF
  ·refine X0 4 rfl ?_
   obtain rfl := qb hF; replace hF := hK1
   exact rb h hF rfl
  exact X0 6 rfl (rK ⟨_, hF, rfl, h⟩ rfl)
 refine qr rfl ?_
 obtain rfl := qb hF; replace hF := hK1
 exact X0 4 rfl (rb h hF rfl)
def qch (_ : Nat) (list : (List qap)) : Option Int :=
 some (list.length : Int)
theorem qhB {list : (List qap)} (ha1 : GoT.R w (old w) list cs1) {r : Int} (hF : qch n list = some r) : RetV Tryz.prog 252 [GoT.v (List qap) cs1] w r := by
 obtain ⟨p1, k1, rfl, s1⟩ := ha1
 exact zV 5 Tryz.func252 rfl fun h => X0 10 rfl (ri h hF rfl)
def qcL (list : (List qap)) : Nat → (List ByteArray) → Int → Option (Flow Bool ((List ByteArray) × Int))
 | 0, _, _ => none
 | n + 1, x1, i1 =>
  bif decide (i1 < (list.length : Int)) then
   (idx list i1).bind fun y1 =>
   (appS x1 ([y1.Bb] : List ByteArray)).bind fun x2 =>
   bif (i1 == (W64 ((list.length : Int) - 1))) then
    bif (y1.Bv != 2) then some (.ret false) else
    bif (y1.Bt != 0) then some (.ret false) else
    bif y1.Bq then some (.ret false) else
    qcL list n x2 (W64 (i1 + 1))
   else
    bif (y1.Bv != 1) then some (.ret false) else
    (qaF n y1.Bt 0 500).bind fun r1 =>
    bif (!r1) then some (.ret false) else
    qcL list n x2 (W64 (i1 + 1))
  else
   some (.nxt (x1, i1))
def qjF (n : Nat) (list : (List qap)) : Option Bool :=
 (qcL list n ([] : List ByteArray) 0).bind fun o => match o with
 | .ret r => some r
 | .nxt (x1, _) =>
  (qch n list).bind fun r2 =>
  (qaF n r2 2 5).bind fun r3 =>
  bif r3 then
   (qdM n x1).bind fun r4 =>
   some r4
  else
   some false
theorem qpk {list : (List qap)} (ha1 : GoT.R w (old w) list cs1) {r : Bool} (hF : qjF n list = some r) : RetV Tryz.prog 235 [GoT.v (List qap) cs1] w r := by
 obtain ⟨p1, k1, rfl, s1⟩ := ha1
 refine zV 52 Tryz.func235 rfl fun h => X0 15 rfl ?_
 replace h := h.nil (α := ByteArray)
 obtain ⟨o1, hF, hK1⟩ := qc hF
 refine ql (rL (fun m e w' => ∃ (S1 : Nat → Prop) (p2 : Option Addr) (ln1 : Nat) (k2 : Nat) (x1 : (List ByteArray)) (i1 : Int), qcL list m x1 i1 = some o1 ∧ e = [(0, .slice p1 list.length k1), (3, .slice p2 ln1 k2), (6, .slice p1 list.length k1), (7, .int .i64 (list.length : Int)), (8, .int .i64 i1)] ∧ SH w w' [Ch.own S1 (x1 : List ByteArray) [.slice p2 ln1 k2]]) n ⟨_, _, _, _, _, _, hF, rfl, h⟩ rfl ?_)
 rintro m1 e1 w1 ⟨S1, p2, ln1, k2, x1, i1, hF, rfl, h⟩
 obtain rfl := (h.sl 0 rfl).2
 rcases m1 with _ | m1
 ·cases hF
 refine X0 5 rfl (qg rfl hF ?_ ?_) <;> intro hF
 ·refine X0 6 rfl ?_
  obtain ⟨y1, hy1, hF, he1, b1, _, q1, cs2, hp1, hq1, hr1, hc2⟩ := s1.ix hF
  obtain rfl := qbn hr1
  refine zxe hp1 hq1 he1 rfl (zc 0 (hc2.below h.below) rfl (qm qa h rfl rfl rfl fun w2 bb1 h => zp1 rfl (zs 0 h rfl fun w3 h => X1 6 0 h rfl (qJ qa [.tmp 15] _ ([y1.Bb] : List ByteArray) h rfl rfl rfl rfl rfl rfl rfl rfl rfl ⟨rfl, trivial⟩ rfl fun w4 p3 S2 h => ?_))))
  obtain ⟨x2, hx1, hF⟩ := qc hF
  obtain ⟨g1, hx1⟩ := qax hx1
  refine qct qa 2 h rfl (h.sl 0 rfl).1 (h.sl 0 rfl).2 rfl rfl rfl rfl rfl rfl rfl rfl rfl g1 hx1 rfl fun w5 p4 k3 S3 h => X0 10 rfl (qg rfl hF ?_ ?_) <;> intro hF
  ·refine X1 6 1 h rfl (qi (t := 26) hF rfl ?_ ?_) <;> intro hF
   ·refine X0 9 rfl (qbT rfl rfl (X0 4 rfl ?_))
    obtain rfl := qb hF; replace hF := hK1
    exact rb h hF rfl
   refine X1 8 1 h rfl (qi (t := 31) hF rfl ?_ ?_) <;> intro hF
   ·refine X0 4 rfl (qbT rfl rfl (X0 4 rfl ?_))
    obtain rfl := qb hF; replace hF := hK1
    exact rb h hF rfl
   refine X1 6 1 h rfl (qg rfl hF ?_ ?_) <;> intro hF
   ·refine X0 4 rfl ?_
    obtain rfl := qb hF; replace hF := hK1
    exact rb h hF rfl
   refine X0 6 rfl ?_
   replace h := h.pick [2] rfl
   exact rK ⟨_, _, _, _, _, _, hF, rfl, h⟩ rfl
  refine X1 6 1 h rfl (qi (t := 38) hF rfl ?_ ?_) <;> intro hF
  ·refine X0 6 rfl (qbT rfl rfl (X0 4 rfl ?_))
   obtain rfl := qb hF; replace hF := hK1
   exact rb h hF rfl
  refine X1 5 1 h rfl (zcB h hF qau rfl fun r1 w6 h hF => X0 4 rfl (qg rfl hF ?_ ?_)) <;> intro hF
  ·refine X0 4 rfl ?_
   obtain rfl := qb hF; replace hF := hK1
   exact rb h hF rfl
  refine X0 6 rfl ?_
  replace h := h.pick [2] rfl
  exact rK ⟨_, _, _, _, _, _, hF, rfl, h⟩ rfl
 refine qr rfl ?_
 obtain rfl := qb hF; replace hF := hK1
 refine X0 3 rfl (zcI h hF (qhB ⟨_, _, rfl, (h.oldS s1)⟩) rfl fun r2 w7 h hF => zcB h hF qau rfl fun r3 w8 h hF => zp1 rfl (qi (t := 48) hF rfl ?_ ?_)) <;> intro hF
 ·exact X0 3 rfl (zcB h hF (qe4 (h.own 0 rfl)) rfl fun r4 w9 h hF => X0 3 rfl (rb h hF rfl))
 exact X0 5 rfl (rb h hF rfl)
def qdQ (n : Nat) (c : qA) : Option Int :=
 (qch n c.Bc).bind fun r1 =>
 some (W64 (r1 - 1))
theorem qgS {c : qA} (ha1 : GoT.R w (old w) c cs1) {r : Int} (hF : qdQ n c = some r) : RetV Tryz.prog 256 [GoT.v qA cs1] w r := by
 obtain ⟨p1, k1, p2, k2, p3, k3, rfl, s1, s2, s3⟩ := qaa ha1
 exact zV 7 Tryz.func256 rfl fun h => zSR (qt h rfl rfl fun w1 bb1 h => X1 6 0 h rfl (zcI h hF (qhB ⟨_, _, rfl, (h.oldS s1)⟩) rfl fun r1 w2 h hF => X0 3 rfl (ri h hF rfl)))
def qjy (_ : Nat) (kind : Int) : Option Bool :=
 bif (kind == 4) then some true else
 some (kind == 5)
theorem qpc {kind : Int}  {r : Bool} (hF : qjy n kind = some r) : RetV Tryz.prog 265 [.int .i64 kind] w r := by
 refine zV 9 Tryz.func265 rfl fun h => X0 9 rfl (qi (t := 5) hF rfl ?_ ?_) <;> intro hF
 ·exact X0 5 rfl (rb h hF rfl)
 exact X0 7 rfl (rb h hF rfl)
def qgM (n : Nat) (a_n : Int) (v0 : Int) (v1 : Int) : Option Bool :=
 (qaF n a_n v0 v1).bind fun r1 =>
 some (!r1)
theorem qnb {a_n : Int} {v0 : Int} {v1 : Int} {p1 : Option Addr} (ha1 : GoT.R w (old w) (some v0) [.pointer p1]) {p2 : Option Addr} (ha2 : GoT.R w (old w) (some v1) [.pointer p2]) {r : Bool} (hF : qgM n a_n v0 v1 = some r) : RetV Tryz.prog 114 [.int .i64 a_n, .pointer p1, .pointer p2] w r := by
 obtain ⟨b1, o_1, cs1, rfl, -, hr1, hc1⟩ := PtR.get ha1 rfl
 obtain rfl := hr1
 obtain ⟨b2, o_2, cs2, rfl, -, hr2, hc2⟩ := PtR.get ha2 rfl
 obtain rfl := hr2
 exact zV 10 Tryz.func114 rfl fun h => X0 7 rfl (zc 0 (hc1.below h.below) rfl (zc 0 (hc2.below h.below) rfl (zcB h hF qau rfl fun r1 w1 h hF => X0 3 rfl (rb h hF rfl))))
def qab (s : (List Int)) (f_0 : Int) (f_1 : Int) : Nat → Int → Option (Flow Int Int)
 | 0, _ => none
 | n + 1, i1 =>
  bif decide (i1 < (s.length : Int)) then
   (idx s i1).bind fun y1 =>
   (qgM n y1 f_0 f_1).bind fun r1 =>
   bif r1 then some (.ret i1) else
   qab s f_0 f_1 n (W64 (i1 + 1))
  else
   some (.nxt i1)
def qaP (n : Nat) (s : (List Int)) (f_0 : Int) (f_1 : Int) : Option Int :=
 (qab s f_0 f_1 n 0).bind fun o => match o with
 | .ret r => some r
 | .nxt _ =>
  some (-1)
theorem qfy {s : (List Int)} {f_0 : Int} {f_1 : Int} (ha1 : GoT.R w (old w) s cs1) {p2 : Option Addr} (ha2 : GoT.R w (old w) (some f_0) [.pointer p2]) {p3 : Option Addr} (ha3 : GoT.R w (old w) (some f_1) [.pointer p3]) {r : Int} (hF : qaP n s f_0 f_1 = some r) : RetV Tryz.prog 160 [GoT.v (List Int) cs1, .func (.func 114) #[] #[.pointer p2, .pointer p3]] w r := by
 obtain ⟨p1, k1, rfl, s1⟩ := ha1
 obtain ⟨b1, o_1, cs2, rfl, -, hr1, hc1⟩ := PtR.get ha2 rfl
 obtain rfl := hr1
 obtain ⟨b2, o_2, cs3, rfl, -, hr2, hc2⟩ := PtR.get ha3 rfl
 obtain rfl := hr2
 refine zV 19 Tryz.func160 rfl fun h => X0 11 rfl ?_
 obtain ⟨o1, hF, hK1⟩ := qc hF
 refine ql (rL (fun m e w' => ∃ (i1 : Int), qab s f_0 f_1 m i1 = some o1 ∧ e = [(0, .slice p1 s.length k1), (1, .func (.func 114) #[] #[.pointer (some ⟨b1, o_1, none⟩), .pointer (some ⟨b2, o_2, none⟩)]), (7, .int .i64 (s.length : Int)), (8, .int .i64 i1)] ∧ SH w w' []) n ⟨_, hF, rfl, h⟩ rfl ?_)
 rintro m1 e1 w1 ⟨i1, hF, rfl, h⟩
 rcases m1 with _ | m1
 ·cases hF
 refine X0 5 rfl (qg rfl hF ?_ ?_) <;> intro hF
 ·refine X0 13 rfl ?_
  obtain ⟨y1, hy1, hF, he1, b3, _, q1, cs4, hp1, hq1, rfl, hc4⟩ := s1.ix hF
  refine zxe hp1 hq1 he1 rfl (zc 0 (hc4.below h.below) rfl (zcB h hF (qnb (h.old ha2) (h.old ha3)) rfl fun r1 w2 h hF => qcx (qg rfl hF ?_ ?_))) <;> intro hF
  ·refine X0 5 rfl ?_
   obtain rfl := qb hF; replace hF := hK1
   exact ri h hF rfl
  exact X0 6 rfl (rK ⟨_, hF, rfl, h⟩ rfl)
 refine qr rfl ?_
 obtain rfl := qb hF; replace hF := hK1
 exact X0 4 rfl (ri h hF rfl)
def qbp (n : Nat) (s : (List Int)) (f_0 : Int) (f_1 : Int) : Option Bool :=
 (qaP n s f_0 f_1).bind fun r1 =>
 some (decide (r1 ≥ 0))
theorem qeW {s : (List Int)} {f_0 : Int} {f_1 : Int} (ha1 : GoT.R w (old w) s cs1) {p2 : Option Addr} (ha2 : GoT.R w (old w) (some f_0) [.pointer p2]) {p3 : Option Addr} (ha3 : GoT.R w (old w) (some f_1) [.pointer p3]) {r : Bool} (hF : qbp n s f_0 f_1 = some r) : RetV Tryz.prog 111 [GoT.v (List Int) cs1, .func (.func 114) #[] #[.pointer p2, .pointer p3]] w r := by
 obtain ⟨p1, k1, rfl, s1⟩ := ha1
 obtain ⟨b1, o_1, cs2, rfl, -, hr1, hc1⟩ := PtR.get ha2 rfl
 obtain rfl := hr1
 obtain ⟨b2, o_2, cs3, rfl, -, hr2, hc2⟩ := PtR.get ha3 rfl
 obtain rfl := hr2
 exact zV 9 Tryz.func111 rfl fun h => X0 8 rfl (zcI h hF (qfy ⟨_, _, rfl, (h.oldS s1)⟩ (h.old ha2) (h.old ha3)) rfl fun r1 w1 h hF => X0 3 rfl (rb h hF rfl))
def qbI (n : Nat) (list : (List Int)) (low : Int) (high : Int) : Option Bool :=
 (qbp n list low high).bind fun r1 =>
 some (!r1)
theorem qbZ {list : (List Int)} {low : Int} {high : Int} (ha1 : GoT.R w (old w) list cs1) {r : Bool} (hF : qbI n list low high = some r) : RetV Tryz.prog 62 [GoT.v (List Int) cs1, .int .i64 low, .int .i64 high] w r := by
 obtain ⟨p1, k1, rfl, s1⟩ := ha1
 exact zV 11 Tryz.func62 rfl fun h => zSR (qt h rfl rfl fun w1 bb1 h => qt h rfl rfl fun w2 bb2 h => X0 6 rfl (zcB h hF (qeW ⟨_, _, rfl, (h.oldS s1)⟩ (qgc (x := low) 1 h rfl rfl) (qgc (x := high) 0 h rfl rfl)) rfl fun r1 w3 h hF => X0 3 rfl (rb h hF rfl)))
def qbh (_ : Nat) (list : (List Int)) : Option Int :=
 some (list.length : Int)
theorem qce {list : (List Int)} (ha1 : GoT.R w (old w) list cs1) {r : Int} (hF : qbh n list = some r) : RetV Tryz.prog 140 [GoT.v (List Int) cs1] w r := by
 obtain ⟨p1, k1, rfl, s1⟩ := ha1
 exact zV 5 Tryz.func140 rfl fun h => X0 10 rfl (ri h hF rfl)
def qbm (list : (List Int)) : Nat → Int → Option (Flow Bool Int)
 | 0, _ => none
 | n + 1, i1 =>
  bif decide (i1 < (list.length : Int)) then
   (idx list (W64 (i1 - 1))).bind fun y1 =>
   (idx list i1).bind fun y2 =>
   bif decide (y1 ≥ y2) then some (.ret false) else
   qbm list n (W64 (i1 + 1))
  else
   some (.nxt i1)
def qeA (n : Nat) (list : (List Int)) : Option Bool :=
 (qbm list n 1).bind fun o => match o with
 | .ret r => some r
 | .nxt _ =>
  some true
theorem qi1 {list : (List Int)} (ha1 : GoT.R w (old w) list cs1) {r : Bool} (hF : qeA n list = some r) : RetV Tryz.prog 147 [GoT.v (List Int) cs1] w r := by
 obtain ⟨p1, k1, rfl, s1⟩ := ha1
 refine zV 20 Tryz.func147 rfl fun h => X0 9 rfl ?_
 obtain ⟨o1, hF, hK1⟩ := qc hF
 refine ql (rL (fun m e w' => ∃ (i1 : Int), qbm list m i1 = some o1 ∧ e = [(0, .slice p1 list.length k1), (3, .int .i64 i1)] ∧ SH w w' []) n ⟨_, hF, rfl, h⟩ rfl ?_)
 rintro m1 e1 w1 ⟨i1, hF, rfl, h⟩
 rcases m1 with _ | m1
 ·cases hF
 refine X0 8 rfl (qg rfl hF ?_ ?_) <;> intro hF
 ·refine X0 4 rfl (rD (zd3 rfl ?_))
  obtain ⟨y1, hy1, hF, he1, b1, _, q1, cs2, hp1, hq1, rfl, hc2⟩ := s1.ix hF
  refine zdxe hp1 hq1 he1 rfl (zdc 0 (hc2.below h.below) rfl (zd2 rfl ?_))
  obtain ⟨y2, hy2, hF, he2, b2, _, q2, cs3, hp2, hq2, rfl, hc3⟩ := s1.ix hF
  refine zdxe hp2 hq2 he2 rfl (zdc 0 (hc3.below h.below) rfl (zd1 rfl (dN h fun w2 h => qg rfl hF ?_ ?_))) <;> intro hF
  ·refine X0 4 rfl ?_
   obtain rfl := qb hF; replace hF := hK1
   exact rb h hF rfl
  exact X0 7 rfl (rK ⟨_, hF, rfl, h⟩ rfl)
 refine qr rfl ?_
 obtain rfl := qb hF; replace hF := hK1
 exact X0 4 rfl (rb h hF rfl)
def qiU (n : Nat) (list : (List Int)) : Option Bool :=
 (qbh n list).bind fun r1 =>
 (qaF n r1 1 4).bind fun r2 =>
 bif r2 then
  (qbI n list 0 100000).bind fun r3 =>
  bif r3 then
   (qeA n list).bind fun r4 =>
   some r4
  else
   some false
 else
  some false
theorem qmn {list : (List Int)} (ha1 : GoT.R w (old w) list cs1) {r : Bool} (hF : qiU n list = some r) : RetV Tryz.prog 286 [GoT.v (List Int) cs1] w r := by
 obtain ⟨p1, k1, rfl, s1⟩ := ha1
 refine zV 14 Tryz.func286 rfl fun h => X0 7 rfl (zcI h hF (qce ⟨_, _, rfl, (h.oldS s1)⟩) rfl fun r1 w1 h hF => zcB h hF qau rfl fun r2 w2 h hF => zp1 rfl (qi (t := 6) hF rfl ?_ ?_)) <;> intro hF
 ·refine X0 3 rfl (zcB h hF (qbZ ⟨_, _, rfl, (h.oldS s1)⟩) rfl fun r3 w3 h hF => zp2 rfl (qi (t := 10) hF rfl ?_ ?_)) <;> intro hF
  ·exact X0 3 rfl (zcB h hF (qi1 ⟨_, _, rfl, (h.oldS s1)⟩) rfl fun r4 w4 h hF => X0 3 rfl (rb h hF rfl))
  exact X0 5 rfl (rb h hF rfl)
 exact X0 9 rfl (rb h hF rfl)
def qjC (n : Nat) (t : qv) : Option Bool :=
 (qiU n t.Bm).bind fun r1 =>
 bif r1 then
  (qiU n t.Bj).bind fun r2 =>
  bif r2 then
   bif ((t.Bh.length : Int) == (W64 ((t.Bm.length : Int) * (t.Bj.length : Int)))) then
    (qbI n t.Bh (-1000000) 1000000).bind fun r3 =>
    some r3
   else
    some false
  else
   some false
 else
  some false
theorem qpa {t : qv} (ha1 : GoT.R w (old w) t cs1) {r : Bool} (hF : qjC n t = some r) : RetV Tryz.prog 279 [GoT.v qv cs1] w r := by
 obtain ⟨p1, k1, p2, k2, p3, k3, rfl, s1, s2, s3⟩ := qaC ha1
 refine zV 29 Tryz.func279 rfl fun h => zSR (qt h rfl rfl fun w1 bb1 h => X1 6 0 h rfl (zcB h hF (qmn ⟨_, _, rfl, (h.oldS s1)⟩) rfl fun r1 w2 h hF => zp1 rfl (qi (t := 6) hF rfl ?_ ?_))) <;> intro hF
 ·refine X1 5 0 h rfl (zcB h hF (qmn ⟨_, _, rfl, (h.oldS s2)⟩) rfl fun r2 w3 h hF => zp2 rfl (qi (t := 11) hF rfl ?_ ?_)) <;> intro hF
  ·refine X3 24 0 0 0 h rfl (qi (t := 24) hF rfl ?_ ?_) <;> intro hF
   ·exact X1 5 0 h rfl (zcB h hF (qbZ ⟨_, _, rfl, (h.oldS s3)⟩) rfl fun r3 w4 h hF => X0 3 rfl (rb h hF rfl))
   exact X0 6 rfl (rb h hF rfl)
  exact X0 19 rfl (rb h hF rfl)
 exact X0 24 rfl (rb h hF rfl)
def qcD (x : (List Int)) : Nat → Int → Int → Option (Int × Int)
 | 0, _, _ => none
 | n + 1, i1, i2 =>
  bif decide (i2 < (x.length : Int)) then
   (idx x i2).bind fun y2 =>
   qcD x n (if y2 < i1 then y2 else i1) (W64 (i2 + 1))
  else
   some (i1, i2)
def qgC (n : Nat) (x : (List Int)) : Option Int :=
 (
  bif decide ((x.length : Int) < 1) then none else
  some ()).bind fun _ =>
 (idx x 0).bind fun y1 =>
 (qcD x n y1 1).bind fun o => match o with
 | (i1, _) =>
  some i1
theorem qni {x : (List Int)} (ha1 : GoT.R w (old w) x cs1) {r : Int} (hF : qgC n x = some r) : RetV Tryz.prog 280 [GoT.v (List Int) cs1] w r := by
 obtain ⟨p1, k1, rfl, s1⟩ := ha1
 refine zV 25 Tryz.func280 rfl fun h => X0 11 rfl ?_
 obtain ⟨KF1, hKF1, o2, hF, hK2⟩ := bindE hF
 refine qbi (fun e w' => KF1 () = some r ∧ e = [(0, .slice p1 x.length k1)] ∧ SH w w' []) ?_ ?_
 ·refine qg rfl hF ?_ ?_ <;> intro hF
  ·refine qlo ?_
   cases hF
  refine qhq ?_
  obtain rfl := qb hF
  exact rG ⟨hK2, rfl, h⟩ rfl
 rintro e2 w2 ⟨hF, rfl, h⟩
 subst hKF1
 refine X0 3 rfl ?_
 obtain ⟨y1, hy1, hF, he1, b1, _, q1, cs2, hp1, hq1, rfl, hc1⟩ := s1.ix hF
 refine zxe hp1 hq1 he1 rfl (zc 0 (hc1.below h.below) rfl (X0 7 rfl ?_))
 obtain ⟨o1, hF, hK1⟩ := qc hF
 refine ql (rL (fun m e w' => ∃ (i1 : Int) (i2 : Int), qcD x m i1 i2 = some o1 ∧ e = [(0, .slice p1 x.length k1), (3, .int .i64 i1), (4, .int .i64 i2)] ∧ SH w w' []) n ⟨_, _, hF, rfl, h⟩ rfl ?_)
 rintro m1 e1 w1 ⟨i1, i2, hF, rfl, h⟩
 rcases m1 with _ | m1
 ·cases hF
 refine X0 8 rfl (qg rfl hF ?_ ?_) <;> intro hF
 ·refine X0 7 rfl ?_
  obtain ⟨y2, hy2, hF, he2, b2, _, q2, cs3, hp2, hq2, rfl, hc3⟩ := s1.ix hF
  exact zxe hp2 hq2 he2 rfl (zc 0 (hc3.below h.below) rfl (X0 9 rfl (rK ⟨_, _, hF, rfl, h⟩ rfl)))
 refine qr rfl ?_
 obtain rfl := qb hF; replace hF := hK1
 exact X0 5 rfl (ri h hF rfl)
def qgB (n : Nat) (t : qv) (v0 : Bool) : Option Bool :=
 (qjC n t).bind fun r1 =>
 bif (!r1) then some true else
 bif v0 then
  (qgC n t.Bh).bind fun r2 =>
  some (decide (r2 < 0))
 else
  some false
theorem qm4 {t : qv} {v0 : Bool} (ha1 : GoT.R w (old w) t cs1) {p4 : Option Addr} (ha2 : GoT.R w (old w) (some v0) [.pointer p4]) {r : Bool} (hF : qgB n t v0 = some r) : RetV Tryz.prog 278 [GoT.v qv cs1, .pointer p4] w r := by
 obtain ⟨p1, k1, p2, k2, p3, k3, rfl, s1, s2, s3⟩ := qaC ha1
 obtain ⟨b1, o_1, cs2, rfl, -, hr1, hc1⟩ := PtR.get ha2 rfl
 obtain rfl := hr1
 refine zV 16 Tryz.func278 rfl fun h => zSR (qt h rfl rfl fun w1 bb1 h => X1 5 0 h rfl (zcB h hF (qpa (h.old ha1)) rfl fun r1 w2 h hF => zp2 rfl (qi (t := 7) hF rfl ?_ ?_))) <;> intro hF
 ·exact X0 10 rfl (rb h hF rfl)
 refine X0 1 rfl (zc 0 (hc1.below h.below) rfl (X0 2 rfl (qi (t := 9) hF rfl ?_ ?_))) <;> intro hF
 ·exact X1 5 0 h rfl (zcI h hF (qni ⟨_, _, rfl, (h.oldS s3)⟩) rfl fun r2 w3 h hF => X0 7 rfl (rb h hF rfl))
 exact X0 9 rfl (rb h hF rfl)
def qK (s : (List qv)) (f_0 : Bool) : Nat → Int → Option (Flow Int Int)
 | 0, _ => none
 | n + 1, i1 =>
  bif decide (i1 < (s.length : Int)) then
   (idx s i1).bind fun y1 =>
   (qgB n y1 f_0).bind fun r1 =>
   bif r1 then some (.ret i1) else
   qK s f_0 n (W64 (i1 + 1))
  else
   some (.nxt i1)
def qaz (n : Nat) (s : (List qv)) (f_0 : Bool) : Option Int :=
 (qK s f_0 n 0).bind fun o => match o with
 | .ret r => some r
 | .nxt _ =>
  some (-1)
theorem qez {s : (List qv)} {f_0 : Bool} (ha1 : GoT.R w (old w) s cs1) {p2 : Option Addr} (ha2 : GoT.R w (old w) (some f_0) [.pointer p2]) {r : Int} (hF : qaz n s f_0 = some r) : RetV Tryz.prog 285 [GoT.v (List qv) cs1, .func (.func 278) #[] #[.pointer p2]] w r := by
 obtain ⟨p1, k1, rfl, s1⟩ := ha1
 obtain ⟨b1, o_1, cs2, rfl, -, hr1, hc1⟩ := PtR.get ha2 rfl
 obtain rfl := hr1
 refine zV 19 Tryz.func285 rfl fun h => X0 11 rfl ?_
 obtain ⟨o1, hF, hK1⟩ := qc hF
 refine ql (rL (fun m e w' => ∃ (i1 : Int), qK s f_0 m i1 = some o1 ∧ e = [(0, .slice p1 s.length k1), (1, .func (.func 278) #[] #[.pointer (some ⟨b1, o_1, none⟩)]), (7, .int .i64 (s.length : Int)), (8, .int .i64 i1)] ∧ SH w w' []) n ⟨_, hF, rfl, h⟩ rfl ?_)
 rintro m1 e1 w1 ⟨i1, hF, rfl, h⟩
 rcases m1 with _ | m1
 ·cases hF
 refine X0 5 rfl (qg rfl hF ?_ ?_) <;> intro hF
 ·refine X0 13 rfl ?_
  obtain ⟨y1, hy1, hF, he1, b2, _, q1, cs3, hp1, hq1, hr2, hc3⟩ := s1.ix hF
  obtain ⟨p3, k2, p4, k3, p5, k4, rfl, s2, s3, s4⟩ := qaC hr2
  refine zxe hp1 hq1 he1 rfl (zc 0 (hc3.below h.below) rfl (zcB h hF (qm4 (qeN y1 (h.oldS s2) (h.oldS s3) (h.oldS s4)) (h.old ha2)) rfl fun r1 w2 h hF => qcx (qg rfl hF ?_ ?_))) <;> intro hF
  ·refine X0 5 rfl ?_
   obtain rfl := qb hF; replace hF := hK1
   exact ri h hF rfl
  exact X0 6 rfl (rK ⟨_, hF, rfl, h⟩ rfl)
 refine qr rfl ?_
 obtain rfl := qb hF; replace hF := hK1
 exact X0 4 rfl (ri h hF rfl)
def qaT (n : Nat) (s : (List qv)) (f_0 : Bool) : Option Bool :=
 (qaz n s f_0).bind fun r1 =>
 some (decide (r1 ≥ 0))
theorem qd5 {s : (List qv)} {f_0 : Bool} (ha1 : GoT.R w (old w) s cs1) {p2 : Option Addr} (ha2 : GoT.R w (old w) (some f_0) [.pointer p2]) {r : Bool} (hF : qaT n s f_0 = some r) : RetV Tryz.prog 277 [GoT.v (List qv) cs1, .func (.func 278) #[] #[.pointer p2]] w r := by
 obtain ⟨p1, k1, rfl, s1⟩ := ha1
 obtain ⟨b1, o_1, cs2, rfl, -, hr1, hc1⟩ := PtR.get ha2 rfl
 obtain rfl := hr1
 exact zV 9 Tryz.func277 rfl fun h => X0 8 rfl (zcI h hF (qez ⟨_, _, rfl, (h.oldS s1)⟩ (h.old ha2)) rfl fun r1 w1 h hF => X0 3 rfl (rb h hF rfl))
def qe5 (n : Nat) (list : (List qv)) (positive : Bool) : Option Bool :=
 bif ((list.length : Int) == 2) then
  (qaT n list positive).bind fun r1 =>
  some (!r1)
 else
  some false
theorem qig {list : (List qv)} {positive : Bool} (ha1 : GoT.R w (old w) list cs1) {r : Bool} (hF : qe5 n list positive = some r) : RetV Tryz.prog 266 [GoT.v (List qv) cs1, .bool positive] w r := by
 obtain ⟨p1, k1, rfl, s1⟩ := ha1
 refine zV 14 Tryz.func266 rfl fun h => zSR (qt h rfl rfl fun w1 bb1 h => X0 8 rfl (qi (t := 8) hF rfl ?_ ?_)) <;> intro hF
 ·exact X0 5 rfl (zcB h hF (qd5 ⟨_, _, rfl, (h.oldS s1)⟩ (qgc (x := positive) 0 h rfl rfl)) rfl fun r1 w2 h hF => X0 5 rfl (rb h hF rfl))
 exact X0 7 rfl (rb h hF rfl)
def qhZ (_ : Nat) (p : qap) : Option Bool :=
 some p.Bq
theorem qmH {p : qap} (ha1 : GoT.R w (old w) p cs1) {r : Bool} (hF : qhZ n p = some r) : RetV Tryz.prog 282 [GoT.v qap cs1] w r := by
 obtain rfl := qbn ha1
 exact zV 5 Tryz.func282 rfl fun h => zSR (qt h rfl rfl fun w1 bb1 h => X1 8 0 h rfl (rb h hF rfl))
def qQ (s : (List qap)) : Nat → Int → Option (Flow Int Int)
 | 0, _ => none
 | n + 1, i1 =>
  bif decide (i1 < (s.length : Int)) then
   (idx s i1).bind fun y1 =>
   (qhZ n y1).bind fun r1 =>
   bif r1 then some (.ret i1) else
   qQ s n (W64 (i1 + 1))
  else
   some (.nxt i1)
def qbk (n : Nat) (s : (List qap)) : Option Int :=
 (qQ s n 0).bind fun o => match o with
 | .ret r => some r
 | .nxt _ =>
  some (-1)
theorem qeO {s : (List qap)} (ha1 : GoT.R w (old w) s cs1) {r : Int} (hF : qbk n s = some r) : RetV Tryz.prog 281 [GoT.v (List qap) cs1, .func (.func 282) #[] #[]] w r := by
 obtain ⟨p1, k1, rfl, s1⟩ := ha1
 refine zV 19 Tryz.func281 rfl fun h => X0 11 rfl ?_
 obtain ⟨o1, hF, hK1⟩ := qc hF
 refine ql (rL (fun m e w' => ∃ (i1 : Int), qQ s m i1 = some o1 ∧ e = [(0, .slice p1 s.length k1), (1, .func (.func 282) #[] #[]), (7, .int .i64 (s.length : Int)), (8, .int .i64 i1)] ∧ SH w w' []) n ⟨_, hF, rfl, h⟩ rfl ?_)
 rintro m1 e1 w1 ⟨i1, hF, rfl, h⟩
 rcases m1 with _ | m1
 ·cases hF
 refine X0 5 rfl (qg rfl hF ?_ ?_) <;> intro hF
 ·refine X0 13 rfl ?_
  obtain ⟨y1, hy1, hF, he1, b1, _, q1, cs2, hp1, hq1, hr1, hc2⟩ := s1.ix hF
  obtain rfl := qbn hr1
  refine zxe hp1 hq1 he1 rfl (zc 0 (hc2.below h.below) rfl (zcB h hF (qmH (qji y1)) rfl fun r1 w2 h hF => qcx (qg rfl hF ?_ ?_))) <;> intro hF
  ·refine X0 5 rfl ?_
   obtain rfl := qb hF; replace hF := hK1
   exact ri h hF rfl
  exact X0 6 rfl (rK ⟨_, hF, rfl, h⟩ rfl)
 refine qr rfl ?_
 obtain rfl := qb hF; replace hF := hK1
 exact X0 4 rfl (ri h hF rfl)
def qhm (n : Nat) (c : qA) : Option Int :=
 (qbk n c.Bc).bind fun r1 =>
 some r1
theorem qnm {c : qA} (ha1 : GoT.R w (old w) c cs1) {r : Int} (hF : qhm n c = some r) : RetV Tryz.prog 267 [GoT.v qA cs1] w r := by
 obtain ⟨p1, k1, p2, k2, p3, k3, rfl, s1, s2, s3⟩ := qaa ha1
 exact zV 6 Tryz.func267 rfl fun h => zSR (qt h rfl rfl fun w1 bb1 h => X1 6 0 h rfl (zcI h hF (qeO ⟨_, _, rfl, (h.oldS s1)⟩) rfl fun r1 w2 h hF => X0 2 rfl (ri h hF rfl)))
def qf3 (n : Nat) (c : qA) (pin : Int) : Option Bool :=
 (qdQ n c).bind fun r1 =>
 (qaF n pin 0 (W64 (r1 - 1))).bind fun r2 =>
 some r2
theorem qiW {c : qA} {pin : Int} (ha1 : GoT.R w (old w) c cs1) {r : Bool} (hF : qf3 n c pin = some r) : RetV Tryz.prog 268 [GoT.v qA cs1, .int .i64 pin] w r := by
 obtain ⟨p1, k1, p2, k2, p3, k3, rfl, s1, s2, s3⟩ := qaa ha1
 exact zV 10 Tryz.func268 rfl fun h => zSR (qt h rfl rfl fun w1 bb1 h => X1 6 0 h rfl (zcI h hF (qgS (h.old ha1)) rfl fun r1 w2 h hF => zp1 rfl (zcB h hF qau rfl fun r2 w3 h hF => X0 2 rfl (rb h hF rfl))))
end Go.Fw


namespace Go.Fw
open Go Go.Proofs
open Go.RowKit (Below)
set_option maxRecDepth 100000
set_option maxHeartbeats 1600000
variable {n : Nat} {w : World} {cs1 cs2 cs3 cs4 cs5 cs6 cs7 cs8 cs9 : List Value}
def qhi (n : Nat) (a_0 : qA) (a_1 : qO) : Option Bool :=
 (qjy n a_1.Be).bind fun r1 =>
 bif r1 then
  (
   bif (a_1.Bn == 0) then
    bif ((a_1.Bd.length : Int) == 0) then
     (qe5 n a_1.Bp false).bind fun r2 =>
     bif r2 then
      (qhm n a_0).bind fun r3 =>
      bif (a_1.Bk == r3) then
       bif decide (a_1.Bk ≥ 0) then
        (qf3 n a_0 a_1.To).bind fun r4 =>
        bif r4 then some (a_1.To != a_1.Bk) else
        some false
       else
        some false
      else
       some false
     else
      some false
    else
     some false
   else
    some false).bind fun b1 =>
  some b1
 else
  (
   (qe5 n a_1.Bp true).bind fun r6 =>
   bif (!r6) then some true else
   (qe5 n a_1.Bd true).bind fun r7 =>
   bif (!r7) then some true else
   (qdQ n a_0).bind fun r8 =>
   bif (a_1.To != r8) then some true else
   (qf3 n a_0 a_1.Bk).bind fun r9 =>
   some (!r9)).bind fun b2 =>
  bif b2 then some false else
  bif (a_1.Be == 1) then
   (idx a_0.Bc a_1.Bk).bind fun y1 =>
   bif (!y1.Bq) then
    (qaF n a_1.Bn 1 3).bind fun r5 =>
    some r5
   else
    some false
  else
   (
    bif (a_1.Be == 2) then some (a_1.Be == 2) else
    some (a_1.Be == 3)).bind fun b4 =>
   bif b4 then
    (idx a_0.Bc a_1.Bk).bind fun y2 =>
    bif y2.Bq then some (a_1.Bn == 0) else
    some false
   else
    some false
theorem qnx {a_0 : qA} {a_1 : qO} (ha1 : GoT.R w (old w) a_0 cs1) (ha2 : GoT.R w (old w) a_1 cs2) {r : Bool} (hF : qhi n a_0 a_1 = some r) : RetV Tryz.prog 253 [GoT.v qA cs1, GoT.v qO cs2] w r := by
 obtain ⟨p1, k1, p2, k2, p3, k3, rfl, s1, s2, s3⟩ := qaa ha1
 obtain ⟨p4, k4, p5, k5, rfl, s4, s5⟩ := qae ha2
 refine zV 103 Tryz.func253 rfl fun h => zSR (qt h rfl rfl fun w1 bb1 h => qt h rfl rfl fun w2 bb2 h => X1 7 0 h rfl (zcB h hF qpc rfl fun r1 w3 h hF => qcx (qg rfl hF ?_ ?_))) <;> intro hF
 ·refine qcM ?_
  obtain ⟨KF1, hKF1, o1, hF, hK1⟩ := bindE hF
  refine qbi (fun e w' => ∃ (b1 : Bool), KF1 b1 = some r ∧ e = [(4, .bool b1)] ∧ SH w w' []) ?_ ?_
  ·refine rD (Y1 2 0 h rfl ?_)
   refine zd2 rfl (qaI (t := 11) hF rfl ?_ ?_) <;> intro hF
   ·refine Y1 4 0 h rfl ?_
    refine Y0 6 rfl (qaI (t := 17) hF rfl ?_ ?_) <;> intro hF
    ·refine Y1 4 0 h rfl ?_
     refine Y0 1 rfl ?_
     obtain ⟨r2, hr2, hF⟩ := qc hF
     refine qbc r2 (vsB _) (cB 266 rfl) (fun _ hb => qig ⟨_, _, rfl, ((h.ext hb).oldS s4)⟩ hr2) rfl rfl rfl rfl (zd2 rfl (qaI (t := 22) hF rfl ?_ ?_)) <;> intro hF
     ·refine Y1 4 0 h rfl ?_
      refine Y1 2 1 h rfl ?_
      refine Y0 1 rfl ?_
      obtain ⟨r3, hr3, hF⟩ := qc hF
      refine qbc r3 (vsI _) (cB 267 rfl) (fun _ hb => qnm ((h.ext hb).old ha1) hr3) rfl rfl rfl rfl (Y0 4 rfl (qaI (t := 29) hF rfl ?_ ?_)) <;> intro hF
      ·refine Y1 4 0 h rfl ?_
       refine Y0 4 rfl (qaI (t := 34) hF rfl ?_ ?_) <;> intro hF
       ·refine Y1 2 1 h rfl ?_
        refine Y1 4 0 h rfl ?_
        refine Y0 1 rfl ?_
        obtain ⟨r4, hr4, hF⟩ := qc hF
        refine qbc r4 (vsB _) (cB 268 rfl) (fun _ hb => qiW ((h.ext hb).old ha1) hr4) rfl rfl rfl rfl (zd2 rfl (qaI (t := 40) hF rfl ?_ ?_)) <;> intro hF
        ·refine Y1 4 0 h rfl ?_
         refine Y1 4 0 h rfl ?_
         refine Y0 4 rfl (dN h fun w4 h => ?_)
         replace h := h.pick [] rfl
         obtain rfl := qb hF
         exact rG ⟨_, hK1, rfl, h⟩ rfl
        refine Y0 7 rfl (dN h fun w5 h => ?_)
        replace h := h.pick [] rfl
        obtain rfl := qb hF
        exact rG ⟨_, hK1, rfl, h⟩ rfl
       refine Y0 13 rfl (dN h fun w6 h => ?_)
       replace h := h.pick [] rfl
       obtain rfl := qb hF
       exact rG ⟨_, hK1, rfl, h⟩ rfl
      refine Y0 18 rfl (dN h fun w7 h => ?_)
      replace h := h.pick [] rfl
      obtain rfl := qb hF
      exact rG ⟨_, hK1, rfl, h⟩ rfl
     refine Y0 25 rfl (dN h fun w8 h => ?_)
     replace h := h.pick [] rfl
     obtain rfl := qb hF
     exact rG ⟨_, hK1, rfl, h⟩ rfl
    refine Y0 30 rfl (dN h fun w9 h => ?_)
    replace h := h.pick [] rfl
    obtain rfl := qb hF
    exact rG ⟨_, hK1, rfl, h⟩ rfl
   refine Y0 36 rfl (dN h fun w10 h => ?_)
   replace h := h.pick [] rfl
   obtain rfl := qb hF
   exact rG ⟨_, hK1, rfl, h⟩ rfl
  rintro e1 w11 ⟨b1, hF, rfl, h⟩
  subst hKF1
  exact rb h hF rfl
 refine zKSS ?_
 obtain ⟨KF3, hKF3, o3, hF, hK3⟩ := bindE hF
 refine qbi (fun e w' => ∃ (b2 : Bool), KF3 b2 = some r ∧ e = [(2, .pointer (some ⟨bb1, 0, none⟩)), (3, .pointer (some ⟨bb2, 0, none⟩)), (70, .bool b2)] ∧ SH w w' [Ch.box bb2 (qgk a_1 p4 p5 k4 k5) 171, Ch.box bb1 (qdG a_0 p1 p2 p3 k1 k2 k3) 166]) ?_ ?_
 ·refine rD (Y1 2 0 h rfl ?_)
  obtain ⟨r6, hr8, hF⟩ := qc hF
  refine qbc r6 (vsB _) (cB 266 rfl) (fun _ hb => qig ⟨_, _, rfl, ((h.ext hb).oldS s4)⟩ hr8) rfl rfl rfl rfl (zd2 rfl (qaI (t := 51) hF rfl ?_ ?_)) <;> intro hF
  ·refine Y0 19 rfl (dN h fun w14 h => ?_)
   obtain rfl := qb hF
   exact rG ⟨_, hK3, rfl, h⟩ rfl
  refine Y1 4 0 h rfl ?_
  refine Y0 1 rfl ?_
  obtain ⟨r7, hr9, hF⟩ := qc hF
  refine qbc r7 (vsB _) (cB 266 rfl) (fun _ hb => qig ⟨_, _, rfl, ((h.ext hb).oldS s5)⟩ hr9) rfl rfl rfl rfl (Y0 4 rfl (qaI (t := 57) hF rfl ?_ ?_)) <;> intro hF
  ·refine Y0 13 rfl (dN h fun w15 h => ?_)
   obtain rfl := qb hF
   exact rG ⟨_, hK3, rfl, h⟩ rfl
  refine Y1 4 0 h rfl ?_
  refine Y1 2 1 h rfl ?_
  refine Y0 1 rfl ?_
  obtain ⟨r8, hr10, hF⟩ := qc hF
  refine qbc r8 (vsI _) (cB 256 rfl) (fun _ hb => qgS ((h.ext hb).old ha1) hr10) rfl rfl rfl rfl (Y0 4 rfl (qaI (t := 64) hF rfl ?_ ?_)) <;> intro hF
  ·refine Y0 6 rfl (dN h fun w16 h => ?_)
   obtain rfl := qb hF
   exact rG ⟨_, hK3, rfl, h⟩ rfl
  refine Y1 2 1 h rfl ?_
  refine Y1 4 0 h rfl ?_
  refine Y0 1 rfl ?_
  obtain ⟨r9, hr11, hF⟩ := qc hF
  refine qbc r9 (vsB _) (cB 268 rfl) (fun _ hb => qiW ((h.ext hb).old ha1) hr11) rfl rfl rfl rfl (Y0 3 rfl (dN h fun w17 h => ?_))
  obtain rfl := qb hF
  exact rG ⟨_, hK3, rfl, h⟩ rfl
 rintro e3 w18 ⟨b2, hF, rfl, h⟩
 subst hKF3
 refine qg rfl hF ?_ ?_ <;> intro hF
 ·exact X0 4 rfl (rb h hF rfl)
 refine X1 13 0 h rfl (qg rfl hF ?_ ?_) <;> intro hF
 ·refine X2 6 1 0 h rfl ?_
  obtain ⟨y1, hy1, hF, he1, b3, _, q1, cs3, hp1, hq1, hr5, hc4⟩ := s1.ix hF
  obtain rfl := qbn hr5
  refine zxe hp1 hq1 he1 rfl (zp1 rfl (zc 3 (hc4.below h.below) rfl (zp2 rfl (qi (t := 83) hF rfl ?_ ?_)))) <;> intro hF
  ·exact X1 5 0 h rfl (zcB h hF qau rfl fun r5 w12 h hF => X0 3 rfl (rb h hF rfl))
  exact X0 6 rfl (rb h hF rfl)
 refine X0 6 rfl ?_
 obtain ⟨KF2, hKF2, o2, hF, hK2⟩ := bindE hF
 refine qbi (fun e w' => ∃ (b4 : Bool), KF2 b4 = some r ∧ e = [(2, .pointer (some ⟨bb1, 0, none⟩)), (3, .pointer (some ⟨bb2, 0, none⟩)), (88, .bool b4)] ∧ SH w w' [Ch.box bb2 (qgk a_1 p4 p5 k4 k5) 171, Ch.box bb1 (qdG a_0 p1 p2 p3 k1 k2 k3) 166]) ?_ ?_
 ·refine qg rfl hF ?_ ?_ <;> intro hF
  ·refine qhq ?_
   obtain rfl := qb hF
   exact rG ⟨_, hK2, rfl, h⟩ rfl
  refine X0 4 rfl ?_
  obtain rfl := qb hF
  exact rG ⟨_, hK2, rfl, h⟩ rfl
 rintro e2 w13 ⟨b4, hF, rfl, h⟩
 subst hKF2
 refine qg rfl hF ?_ ?_ <;> intro hF
 ·refine X2 6 1 0 h rfl ?_
  obtain ⟨y2, hy2, hF, he2, b5, _, q2, cs4, hp2, hq2, hr7, hc6⟩ := s1.ix hF
  obtain rfl := qbn hr7
  refine zxe hp2 hq2 he2 rfl (zp1 rfl (zc 3 (hc6.below h.below) rfl (zp1 rfl (qi (t := 98) hF rfl ?_ ?_)))) <;> intro hF
  ·exact X1 9 0 h rfl (rb h hF rfl)
  exact X0 6 rfl (rb h hF rfl)
 exact X0 6 rfl (rb h hF rfl)
def qeZ (_ : Nat) (a_o : qO) (v0 : qO) : Option Bool :=
 bif (a_o.Be == v0.Be) then
  bif (a_o.Bk == v0.Bk) then some (a_o.To == v0.To) else
  some false
 else
  some false
theorem qlv {a_o : qO} {v0 : qO} (ha1 : GoT.R w (old w) a_o cs1) {p3 : Option Addr} (ha2 : GoT.R w (old w) (some v0) [.pointer p3]) {r : Bool} (hF : qeZ n a_o v0 = some r) : RetV Tryz.prog 255 [GoT.v qO cs1, .pointer p3] w r := by
 obtain ⟨p1, k1, p2, k2, rfl, s1, s2⟩ := qae ha1
 obtain ⟨b1, o_1, cs2, rfl, -, hr1, hc1⟩ := PtR.get ha2 rfl
 obtain ⟨p4, k3, p5, k4, rfl, s3, s4⟩ := qae hr1
 refine zV 23 Tryz.func255 rfl fun h => zSR (qt h rfl rfl fun w1 bb1 h => X1 7 0 h rfl (zc 0 (hc1.below h.below) rfl (zp2 rfl (qi (t := 9) hF rfl ?_ ?_)))) <;> intro hF
 ·refine X1 7 0 h rfl (zc 1 (hc1.below h.below) rfl (X0 4 rfl (qi (t := 16) hF rfl ?_ ?_))) <;> intro hF
  ·exact X1 7 0 h rfl (zc 2 (hc1.below h.below) rfl (X0 5 rfl (rb h hF rfl)))
  exact X0 8 rfl (rb h hF rfl)
 exact X0 15 rfl (rb h hF rfl)
def qI (s : (List qO)) (f_0 : qO) : Nat → Int → Option (Flow Int Int)
 | 0, _ => none
 | n + 1, i1 =>
  bif decide (i1 < (s.length : Int)) then
   (idx s i1).bind fun y1 =>
   (qeZ n y1 f_0).bind fun r1 =>
   bif r1 then some (.ret i1) else
   qI s f_0 n (W64 (i1 + 1))
  else
   some (.nxt i1)
def qaY (n : Nat) (s : (List qO)) (f_0 : qO) : Option Int :=
 (qI s f_0 n 0).bind fun o => match o with
 | .ret r => some r
 | .nxt _ =>
  some (-1)
theorem qeg {s : (List qO)} {f_0 : qO} (ha1 : GoT.R w (old w) s cs1) {p2 : Option Addr} (ha2 : GoT.R w (old w) (some f_0) [.pointer p2]) {r : Int} (hF : qaY n s f_0 = some r) : RetV Tryz.prog 269 [GoT.v (List qO) cs1, .func (.func 255) #[] #[.pointer p2]] w r := by
 obtain ⟨p1, k1, rfl, s1⟩ := ha1
 obtain ⟨b1, o_1, cs2, rfl, -, hr1, hc1⟩ := PtR.get ha2 rfl
 obtain ⟨p3, k2, p4, k3, rfl, s2, s3⟩ := qae hr1
 refine zV 19 Tryz.func269 rfl fun h => X0 11 rfl ?_
 obtain ⟨o1, hF, hK1⟩ := qc hF
 refine ql (rL (fun m e w' => ∃ (i1 : Int), qI s f_0 m i1 = some o1 ∧ e = [(0, .slice p1 s.length k1), (1, .func (.func 255) #[] #[.pointer (some ⟨b1, o_1, none⟩)]), (7, .int .i64 (s.length : Int)), (8, .int .i64 i1)] ∧ SH w w' []) n ⟨_, hF, rfl, h⟩ rfl ?_)
 rintro m1 e1 w1 ⟨i1, hF, rfl, h⟩
 rcases m1 with _ | m1
 ·cases hF
 refine X0 5 rfl (qg rfl hF ?_ ?_) <;> intro hF
 ·refine X0 13 rfl ?_
  obtain ⟨y1, hy1, hF, he1, b2, _, q1, cs3, hp1, hq1, hr2, hc3⟩ := s1.ix hF
  obtain ⟨p5, k4, p6, k5, rfl, s4, s5⟩ := qae hr2
  refine zxe hp1 hq1 he1 rfl (zc 0 (hc3.below h.below) rfl (zcB h hF (qlv (qe9 y1 (h.oldS s4) (h.oldS s5)) (h.old ha2)) rfl fun r1 w2 h hF => qcx (qg rfl hF ?_ ?_))) <;> intro hF
  ·refine X0 5 rfl ?_
   obtain rfl := qb hF; replace hF := hK1
   exact ri h hF rfl
  exact X0 6 rfl (rK ⟨_, hF, rfl, h⟩ rfl)
 refine qr rfl ?_
 obtain rfl := qb hF; replace hF := hK1
 exact X0 4 rfl (ri h hF rfl)
def qas (n : Nat) (s : (List qO)) (f_0 : qO) : Option Bool :=
 (qaY n s f_0).bind fun r1 =>
 some (decide (r1 ≥ 0))
theorem qdX {s : (List qO)} {f_0 : qO} (ha1 : GoT.R w (old w) s cs1) {p2 : Option Addr} (ha2 : GoT.R w (old w) (some f_0) [.pointer p2]) {r : Bool} (hF : qas n s f_0 = some r) : RetV Tryz.prog 254 [GoT.v (List qO) cs1, .func (.func 255) #[] #[.pointer p2]] w r := by
 obtain ⟨p1, k1, rfl, s1⟩ := ha1
 obtain ⟨b1, o_1, cs2, rfl, -, hr1, hc1⟩ := PtR.get ha2 rfl
 obtain ⟨p3, k2, p4, k3, rfl, s2, s3⟩ := qae hr1
 exact zV 9 Tryz.func254 rfl fun h => X0 8 rfl (zcI h hF (qeg ⟨_, _, rfl, (h.oldS s1)⟩ (h.old ha2)) rfl fun r1 w1 h hF => X0 3 rfl (rb h hF rfl))
def qcg (c : qA) : Nat → Int → Option (Flow Bool Int)
 | 0, _ => none
 | n + 1, i1 =>
  bif decide (i1 < (c.Ar.length : Int)) then
   (idx c.Ar i1).bind fun y1 =>
   (qhi n c y1).bind fun r1 =>
   bif (!r1) then some (.ret false) else
   (subS c.Ar 0 i1).bind fun x1 =>
   (qas n x1 y1).bind fun r2 =>
   bif r2 then some (.ret false) else
   qcg c n (W64 (i1 + 1))
  else
   some (.nxt i1)
def qf8 (n : Nat) (c : qA) : Option Bool :=
 (qcg c n 0).bind fun o => match o with
 | .ret r => some r
 | .nxt _ =>
  some (decide ((c.Ar.length : Int) ≤ 8))
theorem qmB {c : qA} (ha1 : GoT.R w (old w) c cs1) {r : Bool} (hF : qf8 n c = some r) : RetV Tryz.prog 236 [GoT.v qA cs1] w r := by
 obtain ⟨p1, k1, p2, k2, p3, k3, rfl, s1, s2, s3⟩ := qaa ha1
 refine zV 30 Tryz.func236 rfl fun h => zSR (qt h rfl rfl fun w1 bb1 h => X1 10 0 h rfl ?_)
 obtain ⟨o1, hF, hK1⟩ := qc hF
 refine ql (rL (fun m e w' => ∃ (i1 : Int), qcg c m i1 = some o1 ∧ e = [(1, .pointer (some ⟨bb1, 0, none⟩)), (6, .slice p2 c.Ar.length k2), (7, .int .i64 (c.Ar.length : Int)), (8, .int .i64 i1)] ∧ SH w w' [Ch.box bb1 (qdG c p1 p2 p3 k1 k2 k3) 166]) n ⟨_, hF, rfl, h⟩ rfl ?_)
 rintro m1 e1 w2 ⟨i1, hF, rfl, h⟩
 rcases m1 with _ | m1
 ·cases hF
 refine X0 5 rfl (qg rfl hF ?_ ?_) <;> intro hF
 ·refine X0 6 rfl ?_
  obtain ⟨y1, hy1, hF, he1, b1, _, q1, cs2, hp1, hq1, hr1, hc2⟩ := s2.ix hF
  obtain ⟨p4, k4, p5, k5, rfl, s4, s5⟩ := qae hr1
  refine zxe hp1 hq1 he1 rfl (zc 0 (hc2.below h.below) rfl (qm qa h rfl rfl rfl fun w3 bb2 h => zp1 rfl (zs 0 h rfl fun w4 h => X2 5 1 0 h rfl (zcB h hF (qnx (h.old ha1) (qe9 y1 (h.oldS s4) (h.oldS s5))) rfl fun r1 w5 h hF => zp2 rfl (qi (t := 17) hF rfl ?_ ?_))))) <;> intro hF
  ·refine X0 8 rfl (qbT rfl rfl (X0 4 rfl ?_))
   obtain rfl := qb hF; replace hF := hK1
   exact rb h hF rfl
  refine X1 7 1 h rfl ?_
  obtain ⟨x1, hx1, hF⟩ := qc hF
  obtain ⟨p6, k6, hp2, hk1, hl1, g1⟩ := qwk (h.oldS s2) hx1
  refine r_v (qsD qa rfl rfl rfl (qvq g1 rfl) hp2 hk1 hl1 rfl rfl rfl rfl) rfl ?_
  have s6 := qvW s2 hx1 hp2 hk1
  refine X0 3 rfl (zcB h hF (qdX ⟨_, _, rfl, (h.oldS s6)⟩ (qgc (x := y1) 0 h rfl (qe9 y1 (h.oldS s4) (h.oldS s5)))) rfl fun r2 w6 h hF => X0 2 rfl (qg rfl hF ?_ ?_)) <;> intro hF
  ·refine X0 4 rfl ?_
   obtain rfl := qb hF; replace hF := hK1
   exact rb h hF rfl
  refine X0 6 rfl ?_
  replace h := h.pick [1] rfl
  exact rK ⟨_, hF, rfl, h⟩ rfl
 refine qr rfl ?_
 obtain rfl := qb hF; replace hF := hK1
 exact X1 8 0 h rfl (rb h hF rfl)
def qjj (_ : Nat) (a : qO) (v0 : Int) : Option Bool :=
 some (a.Be == v0)
theorem qnp {a : qO} {v0 : Int} (ha1 : GoT.R w (old w) a cs1) {p3 : Option Addr} (ha2 : GoT.R w (old w) (some v0) [.pointer p3]) {r : Bool} (hF : qjj n a v0 = some r) : RetV Tryz.prog 270 [GoT.v qO cs1, .pointer p3] w r := by
 obtain ⟨p1, k1, p2, k2, rfl, s1, s2⟩ := qae ha1
 obtain ⟨b1, o_1, cs2, rfl, -, hr1, hc1⟩ := PtR.get ha2 rfl
 obtain rfl := hr1
 exact zV 8 Tryz.func270 rfl fun h => zSR (qt h rfl rfl fun w1 bb1 h => X1 6 0 h rfl (zc 0 (hc1.below h.below) rfl (X0 3 rfl (rb h hF rfl))))
def qY (s : (List qO)) (f_0 : Int) : Nat → Int → Option (Flow Int Int)
 | 0, _ => none
 | n + 1, i1 =>
  bif decide (i1 < (s.length : Int)) then
   (idx s i1).bind fun y1 =>
   (qjj n y1 f_0).bind fun r1 =>
   bif r1 then some (.ret i1) else
   qY s f_0 n (W64 (i1 + 1))
  else
   some (.nxt i1)
def qbq (n : Nat) (s : (List qO)) (f_0 : Int) : Option Int :=
 (qY s f_0 n 0).bind fun o => match o with
 | .ret r => some r
 | .nxt _ =>
  some (-1)
theorem qe1 {s : (List qO)} {f_0 : Int} (ha1 : GoT.R w (old w) s cs1) {p2 : Option Addr} (ha2 : GoT.R w (old w) (some f_0) [.pointer p2]) {r : Int} (hF : qbq n s f_0 = some r) : RetV Tryz.prog 269 [GoT.v (List qO) cs1, .func (.func 270) #[] #[.pointer p2]] w r := by
 obtain ⟨p1, k1, rfl, s1⟩ := ha1
 obtain ⟨b1, o_1, cs2, rfl, -, hr1, hc1⟩ := PtR.get ha2 rfl
 obtain rfl := hr1
 refine zV 19 Tryz.func269 rfl fun h => X0 11 rfl ?_
 obtain ⟨o1, hF, hK1⟩ := qc hF
 refine ql (rL (fun m e w' => ∃ (i1 : Int), qY s f_0 m i1 = some o1 ∧ e = [(0, .slice p1 s.length k1), (1, .func (.func 270) #[] #[.pointer (some ⟨b1, o_1, none⟩)]), (7, .int .i64 (s.length : Int)), (8, .int .i64 i1)] ∧ SH w w' []) n ⟨_, hF, rfl, h⟩ rfl ?_)
 rintro m1 e1 w1 ⟨i1, hF, rfl, h⟩
 rcases m1 with _ | m1
 ·cases hF
 refine X0 5 rfl (qg rfl hF ?_ ?_) <;> intro hF
 ·refine X0 13 rfl ?_
  obtain ⟨y1, hy1, hF, he1, b2, _, q1, cs3, hp1, hq1, hr2, hc3⟩ := s1.ix hF
  obtain ⟨p3, k2, p4, k3, rfl, s2, s3⟩ := qae hr2
  refine zxe hp1 hq1 he1 rfl (zc 0 (hc3.below h.below) rfl (zcB h hF (qnp (qe9 y1 (h.oldS s2) (h.oldS s3)) (h.old ha2)) rfl fun r1 w2 h hF => qcx (qg rfl hF ?_ ?_))) <;> intro hF
  ·refine X0 5 rfl ?_
   obtain rfl := qb hF; replace hF := hK1
   exact ri h hF rfl
  exact X0 6 rfl (rK ⟨_, hF, rfl, h⟩ rfl)
 refine qr rfl ?_
 obtain rfl := qb hF; replace hF := hK1
 exact X0 4 rfl (ri h hF rfl)
def qba (n : Nat) (s : (List qO)) (f_0 : Int) : Option Bool :=
 (qbq n s f_0).bind fun r1 =>
 some (decide (r1 ≥ 0))
theorem qer {s : (List qO)} {f_0 : Int} (ha1 : GoT.R w (old w) s cs1) {p2 : Option Addr} (ha2 : GoT.R w (old w) (some f_0) [.pointer p2]) {r : Bool} (hF : qba n s f_0 = some r) : RetV Tryz.prog 254 [GoT.v (List qO) cs1, .func (.func 270) #[] #[.pointer p2]] w r := by
 obtain ⟨p1, k1, rfl, s1⟩ := ha1
 obtain ⟨b1, o_1, cs2, rfl, -, hr1, hc1⟩ := PtR.get ha2 rfl
 obtain rfl := hr1
 exact zV 9 Tryz.func254 rfl fun h => X0 8 rfl (zcI h hF (qe1 ⟨_, _, rfl, (h.oldS s1)⟩ (h.old ha2)) rfl fun r1 w1 h hF => X0 3 rfl (rb h hF rfl))
def qc6 (n : Nat) (c : qA) (kind : Int) : Option Bool :=
 (qba n c.Ar kind).bind fun r1 =>
 some r1
theorem qdR {c : qA} {kind : Int} (ha1 : GoT.R w (old w) c cs1) {r : Bool} (hF : qc6 n c kind = some r) : RetV Tryz.prog 257 [GoT.v qA cs1, .int .i64 kind] w r := by
 obtain ⟨p1, k1, p2, k2, p3, k3, rfl, s1, s2, s3⟩ := qaa ha1
 exact zV 9 Tryz.func257 rfl fun h => zSR (qt h rfl rfl fun w1 bb1 h => qt h rfl rfl fun w2 bb2 h => X1 7 1 h rfl (zcB h hF (qer ⟨_, _, rfl, (h.oldS s2)⟩ (qgc (x := kind) 0 h rfl rfl)) rfl fun r1 w3 h hF => X0 2 rfl (rb h hF rfl)))
def qaZ (a_0 : qA) : Nat → Int → Int → Option (Int × Int)
 | 0, _, _ => none
 | n + 1, i1, i2 =>
  bif decide (i2 < (a_0.Bc.length : Int)) then
   (idx a_0.Bc i2).bind fun y1 =>
   bif y1.Bq then qaZ a_0 n (W64 (i1 + 1)) (W64 (i2 + 1)) else
   qaZ a_0 n i1 (W64 (i2 + 1))
  else
   some (i1, i2)
def qft (n : Nat) (a_0 : qA) : Option Bool :=
 (qaZ a_0 n 0 0).bind fun o => match o with
 | (i1, _) =>
  bif (a_0.Be == 1) then
   bif (i1 == 0) then
    (qdQ n a_0).bind fun r1 =>
    (shlS 1 r1).bind fun y2 =>
    bif ((a_0.Br.length : Int) == y2) then
     (qbI n a_0.Br 0 1).bind fun r2 =>
     some r2
    else
     some false
   else
    some false
  else
   bif (a_0.Be == 2) then
    bif (i1 == 1) then
     bif ((a_0.Br.length : Int) == 0) then
      (qc6 n a_0 1).bind fun r3 =>
      bif (!r3) then
       (qc6 n a_0 2).bind fun r4 =>
       (qc6 n a_0 3).bind fun r5 =>
       some (!(r4 == r5))
      else
       some false
     else
      some false
    else
     some false
   else
    bif (a_0.Be == 3) then
     bif (i1 == 1) then
      bif ((a_0.Br.length : Int) == 0) then
       (qc6 n a_0 1).bind fun r6 =>
       bif r6 then
        (qc6 n a_0 2).bind fun r7 =>
        bif r7 then
         (qc6 n a_0 3).bind fun r8 =>
         some (!r8)
        else
         some false
       else
        some false
      else
       some false
     else
      some false
    else
     some false
theorem qma {a_0 : qA} (ha1 : GoT.R w (old w) a_0 cs1) {r : Bool} (hF : qft n a_0 = some r) : RetV Tryz.prog 237 [GoT.v qA cs1] w r := by
 obtain ⟨p1, k1, p2, k2, p3, k3, rfl, s1, s2, s3⟩ := qaa ha1
 refine zV 83 Tryz.func237 rfl fun h => zSR (qt h rfl rfl fun w1 bb1 h => X1 14 0 h rfl ?_)
 obtain ⟨o1, hF, hK1⟩ := qc hF
 refine ql (rL (fun m e w' => ∃ (i1 : Int) (i2 : Int), qaZ a_0 m i1 i2 = some o1 ∧ e = [(1, .pointer (some ⟨bb1, 0, none⟩)), (3, .int .i64 i1), (7, .slice p1 a_0.Bc.length k1), (8, .int .i64 (a_0.Bc.length : Int)), (9, .int .i64 i2)] ∧ SH w w' [Ch.box bb1 (qdG a_0 p1 p2 p3 k1 k2 k3) 166]) n ⟨_, _, hF, rfl, h⟩ rfl ?_)
 rintro m1 e1 w2 ⟨i1, i2, hF, rfl, h⟩
 rcases m1 with _ | m1
 ·cases hF
 refine X0 5 rfl (qg rfl hF ?_ ?_) <;> intro hF
 ·refine zKSBSR ?_
  obtain ⟨y1, hy1, hF, he1, b1, _, q1, cs2, hp1, hq1, hr1, hc2⟩ := s1.ix hF
  obtain rfl := qbn hr1
  refine zxe hp1 hq1 he1 rfl (zc 0 (hc2.below h.below) rfl (qm qa h rfl rfl rfl fun w3 bb2 h => zs 0 h rfl fun w4 h => X1 6 0 h rfl (qg rfl hF ?_ ?_))) <;> intro hF
  ·refine X0 10 rfl ?_
   replace h := h.pick [1] rfl
   exact rK ⟨_, _, hF, rfl, h⟩ rfl
  refine X0 6 rfl ?_
  replace h := h.pick [1] rfl
  exact rK ⟨_, _, hF, rfl, h⟩ rfl
 refine qr rfl ?_
 obtain rfl := qb hF; replace hF := hK1
 refine X1 12 0 h rfl (qg rfl hF ?_ ?_) <;> intro hF
 ·refine qcM (rD (zd3 rfl (qaI (t := 24) hF rfl ?_ ?_))) <;> intro hF
  ·refine Y1 4 0 h rfl ?_
   refine Y1 4 0 h rfl ?_
   refine Y0 1 rfl ?_
   obtain ⟨r1, hr2, hF⟩ := qc hF
   refine qbc r1 (vsI _) (cB 256 rfl) (fun _ hb => qgS ((h.ext hb).old ha1) hr2) rfl rfl rfl rfl (Y0 1 rfl ?_)
   obtain ⟨y2, hx1, hF⟩ := qc hF
   obtain ⟨g1, hx1⟩ := qre hx1
   refine d_v (fun _ hb => qxl g1 rfl rfl) rfl ?_
   rw [hx1]
   refine Y0 4 rfl (qaI (t := 33) hF rfl ?_ ?_) <;> intro hF
   ·refine Y1 4 0 h rfl ?_
    refine Y0 1 rfl ?_
    obtain ⟨r2, hr3, hF⟩ := qc hF
    exact qbc r2 (vsB _) (cB 62 rfl) (fun _ hb => qbZ ⟨_, _, rfl, ((h.ext hb).oldS s3)⟩ hr3) rfl rfl rfl rfl (zd2 rfl (dN h fun w5 h => rb h hF rfl))
   exact Y0 5 rfl (dN h fun w6 h => rb h hF rfl)
  exact Y0 14 rfl (dN h fun w7 h => rb h hF rfl)
 refine X0 5 rfl (qg rfl hF ?_ ?_) <;> intro hF
 ·refine qcM (rD (zd3 rfl (qaI (t := 42) hF rfl ?_ ?_))) <;> intro hF
  ·refine Y1 4 0 h rfl ?_
   refine Y0 6 rfl (qaI (t := 48) hF rfl ?_ ?_) <;> intro hF
   ·refine Y1 2 0 h rfl ?_
    refine Y0 1 rfl ?_
    obtain ⟨r3, hr4, hF⟩ := qc hF
    refine qbc r3 (vsB _) (cB 257 rfl) (fun _ hb => qdR ((h.ext hb).old ha1) hr4) rfl rfl rfl rfl (Y0 4 rfl (qaI (t := 53) hF rfl ?_ ?_)) <;> intro hF
    ·refine Y1 2 0 h rfl ?_
     refine Y0 1 rfl ?_
     obtain ⟨r4, hr5, hF⟩ := qc hF
     refine qbc r4 (vsB _) (cB 257 rfl) (fun _ hb => qdR ((h.ext hb).old ha1) hr5) rfl rfl rfl rfl (Y1 2 0 h rfl ?_)
     refine Y0 1 rfl ?_
     obtain ⟨r5, hr6, hF⟩ := qc hF
     exact qbc r5 (vsB _) (cB 257 rfl) (fun _ hb => qdR ((h.ext hb).old ha1) hr6) rfl rfl rfl rfl (Y0 4 rfl (dN h fun w8 h => rb h hF rfl))
    exact Y0 7 rfl (dN h fun w9 h => rb h hF rfl)
   exact Y0 12 rfl (dN h fun w10 h => rb h hF rfl)
  exact Y0 18 rfl (dN h fun w11 h => rb h hF rfl)
 refine X0 5 rfl (qg rfl hF ?_ ?_) <;> intro hF
 ·refine X0 5 rfl (qi (t := 64) hF rfl ?_ ?_) <;> intro hF
  ·refine X1 10 0 h rfl (qi (t := 70) hF rfl ?_ ?_) <;> intro hF
   ·refine X1 3 0 h rfl (zcB h hF (qdR (h.old ha1)) rfl fun r6 w12 h hF => zp2 rfl (qi (t := 74) hF rfl ?_ ?_)) <;> intro hF
    ·refine X1 3 0 h rfl (zcB h hF (qdR (h.old ha1)) rfl fun r7 w13 h hF => zp2 rfl (qi (t := 78) hF rfl ?_ ?_)) <;> intro hF
     ·exact X1 3 0 h rfl (zcB h hF (qdR (h.old ha1)) rfl fun r8 w14 h hF => X0 5 rfl (rb h hF rfl))
     exact X0 6 rfl (rb h hF rfl)
    exact X0 10 rfl (rb h hF rfl)
   exact X0 14 rfl (rb h hF rfl)
  exact X0 20 rfl (rb h hF rfl)
 exact X0 6 rfl (rb h hF rfl)
def qkL (n : Nat) (c : qA) : Option Bool :=
 (qhD n c.Bb).bind fun r1 =>
 bif r1 then
  (qjF n c.Bc).bind fun r2 =>
  bif r2 then
   (qf8 n c).bind fun r3 =>
   bif r3 then
    (qaF n c.Ca 0 100000).bind fun r4 =>
    bif r4 then
     (qaF n c.Bu 0 100000).bind fun r5 =>
     bif r5 then
      (qft n c).bind fun r6 =>
      some r6
     else
      some false
    else
     some false
   else
    some false
  else
   some false
 else
  some false
theorem qqq {c : qA} (ha1 : GoT.R w (old w) c cs1) {r : Bool} (hF : qkL n c = some r) : RetV Tryz.prog 204 [GoT.v qA cs1] w r := by
 obtain ⟨p1, k1, p2, k2, p3, k3, rfl, s1, s2, s3⟩ := qaa ha1
 refine zV 29 Tryz.func204 rfl fun h => zSR (qt h rfl rfl fun w1 bb1 h => X1 6 0 h rfl (zcB h hF qjU rfl fun r1 w2 h hF => zp1 rfl (qi (t := 6) hF rfl ?_ ?_))) <;> intro hF
 ·refine X1 5 0 h rfl (zcB h hF (qpk ⟨_, _, rfl, (h.oldS s1)⟩) rfl fun r2 w3 h hF => zp2 rfl (qi (t := 11) hF rfl ?_ ?_)) <;> intro hF
  ·refine X1 3 0 h rfl (zcB h hF (qmB (h.old ha1)) rfl fun r3 w4 h hF => zp2 rfl (qi (t := 15) hF rfl ?_ ?_)) <;> intro hF
   ·refine X1 5 0 h rfl (zcB h hF qau rfl fun r4 w5 h hF => zp2 rfl (qi (t := 20) hF rfl ?_ ?_)) <;> intro hF
    ·refine X1 5 0 h rfl (zcB h hF qau rfl fun r5 w6 h hF => zp2 rfl (qi (t := 25) hF rfl ?_ ?_)) <;> intro hF
     ·exact X1 3 0 h rfl (zcB h hF (qma (h.old ha1)) rfl fun r6 w7 h hF => X0 3 rfl (rb h hF rfl))
     exact X0 5 rfl (rb h hF rfl)
    exact X0 10 rfl (rb h hF rfl)
   exact X0 15 rfl (rb h hF rfl)
  exact X0 19 rfl (rb h hF rfl)
 exact X0 24 rfl (rb h hF rfl)
def qcp (l : qp) : Nat → (List ByteArray) → Int → Option (Flow Bool ((List ByteArray) × Int))
 | 0, _, _ => none
 | n + 1, x1, i1 =>
  bif decide (i1 < (l.Aq.length : Int)) then
   (idx l.Aq i1).bind fun y1 =>
   (qkL n y1).bind fun r1 =>
   bif (!r1) then some (.ret false) else
   (appS x1 ([y1.Bb] : List ByteArray)).bind fun x2 =>
   qcp l n x2 (W64 (i1 + 1))
  else
   some (.nxt (x1, i1))
def qib (n : Nat) (l : qp) : Option Bool :=
 (qcp l n ([] : List ByteArray) 0).bind fun o => match o with
 | .ret r => some r
 | .nxt (x1, _) =>
  bif decide ((l.Aq.length : Int) ≤ 8) then
   (qdM n x1).bind fun r2 =>
   some r2
  else
   some false
theorem qn7 {l : qp} (ha1 : GoT.R w (old w) l cs1) {r : Bool} (hF : qib n l = some r) : RetV Tryz.prog 170 [GoT.v qp cs1] w r := by
 obtain ⟨p1, k1, rfl, s1⟩ := qbs ha1
 refine zV 30 Tryz.func170 rfl fun h => zSR (qt h rfl rfl fun w1 bb1 h => X1 14 0 h rfl ?_)
 replace h := h.nil (α := ByteArray)
 obtain ⟨o1, hF, hK1⟩ := qc hF
 refine ql (rL (fun m e w' => ∃ (S1 : Nat → Prop) (p2 : Option Addr) (ln1 : Nat) (k2 : Nat) (x1 : (List ByteArray)) (i1 : Int), qcp l m x1 i1 = some o1 ∧ e = [(1, .pointer (some ⟨bb1, 0, none⟩)), (3, .slice p2 ln1 k2), (7, .slice p1 l.Aq.length k1), (8, .int .i64 (l.Aq.length : Int)), (9, .int .i64 i1)] ∧ SH w w' [Ch.own S1 (x1 : List ByteArray) [.slice p2 ln1 k2], Ch.box bb1 [.slice p1 l.Aq.length k1] 43]) n ⟨_, _, _, _, _, _, hF, rfl, h⟩ rfl ?_)
 rintro m1 e1 w2 ⟨S1, p2, ln1, k2, x1, i1, hF, rfl, h⟩
 obtain rfl := (h.sl 0 rfl).2
 rcases m1 with _ | m1
 ·cases hF
 refine X0 5 rfl (qg rfl hF ?_ ?_) <;> intro hF
 ·refine zKSBSR ?_
  obtain ⟨y1, hy1, hF, he1, b1, _, q1, cs2, hp1, hq1, hr1, hc2⟩ := s1.ix hF
  obtain ⟨p3, k3, p4, k4, p5, k5, rfl, s2, s3, s4⟩ := qaa hr1
  refine zxe hp1 hq1 he1 rfl (zc 0 (hc2.below h.below) rfl (qm qa h rfl rfl rfl fun w3 bb2 h => zs 0 h rfl fun w4 h => X1 5 0 h rfl (zcB h hF (qqq (qjJ y1 (h.oldS s2) (h.oldS s3) (h.oldS s4))) rfl fun r1 w5 h hF => X0 2 rfl (qg rfl hF ?_ ?_)))) <;> intro hF
  ·refine X0 4 rfl ?_
   obtain rfl := qb hF; replace hF := hK1
   exact rb h hF rfl
  refine X1 5 0 h rfl (qJ qa [.tmp 18] _ ([y1.Bb] : List ByteArray) h rfl rfl rfl rfl rfl rfl rfl rfl rfl ⟨rfl, trivial⟩ rfl fun w6 p6 S2 h => ?_)
  obtain ⟨x2, hx1, hF⟩ := qc hF
  obtain ⟨g1, hx1⟩ := qax hx1
  refine qct qa 2 h rfl (h.sl 0 rfl).1 (h.sl 0 rfl).2 rfl rfl rfl rfl rfl rfl rfl rfl rfl g1 hx1 rfl fun w7 p7 k6 S3 h => X0 7 rfl ?_
  replace h := h.pick [2, 3] rfl
  exact rK ⟨_, _, _, _, _, _, hF, rfl, h⟩ rfl
 refine qr rfl ?_
 obtain rfl := qb hF; replace hF := hK1
 refine X1 7 1 h rfl (qi (t := 26) hF rfl ?_ ?_) <;> intro hF
 ·exact X0 3 rfl (zcB h hF (qe4 (h.own 0 rfl)) rfl fun r2 w8 h hF => X0 3 rfl (rb h hF rfl))
 exact X0 5 rfl (rb h hF rfl)
def qbb (d : qd) : Nat → (List ByteArray) → Int → Option ((List ByteArray) × Int)
 | 0, _, _ => none
 | n + 1, x3, i2 =>
  bif decide (i2 < (d.Aj.length : Int)) then
   (idx d.Aj i2).bind fun y2 =>
   (appS x3 ([y2.Bb] : List ByteArray)).bind fun x4 =>
   qbb d n x4 (W64 (i2 + 1))
  else
   some (x3, i2)
def qa9 (d : qd) : Nat → (List ByteArray) → Int → Option ((List ByteArray) × Int)
 | 0, _, _ => none
 | n + 1, x1, i1 =>
  bif decide (i1 < (d.Aa.length : Int)) then
   (idx d.Aa i1).bind fun y1 =>
   (appS x1 ([y1.Bb] : List ByteArray)).bind fun x2 =>
   qa9 d n x2 (W64 (i1 + 1))
  else
   some (x1, i1)
def qew (n : Nat) (d : qd) : Option Bool :=
 (qa9 d n ([] : List ByteArray) 0).bind fun o => match o with
 | (x1, _) =>
  (qbb d n ([] : List ByteArray) 0).bind fun o => match o with
  | (x3, _) =>
   bif decide ((x1.length : Int) ≤ 14) then
    bif decide ((d.Am.length : Int) ≤ 30) then
     bif decide ((x3.length : Int) ≤ 8) then
      (qdM n x1).bind fun r1 =>
      bif r1 then
       (qdM n d.Am).bind fun r2 =>
       bif r2 then
        (qdM n x3).bind fun r3 =>
        some r3
       else
        some false
      else
       some false
     else
      some false
    else
     some false
   else
    some false
theorem qk6 {d : qd} (ha1 : GoT.R w (old w) d cs1) {r : Bool} (hF : qew n d = some r) : RetV Tryz.prog 171 [GoT.v qd cs1] w r := by
 obtain ⟨p1, k1, p2, k2, p3, k3, rfl, s1, s2, s3⟩ := qat ha1
 refine zV 62 Tryz.func171 rfl fun h => zSR (qt h rfl rfl fun w1 bb1 h => X1 15 0 h rfl ?_)
 replace h := h.nil (α := ByteArray)
 obtain ⟨o1, hF, hK1⟩ := qc hF
 refine ql (rL (fun m e w' => ∃ (S1 : Nat → Prop) (p4 : Option Addr) (ln1 : Nat) (k4 : Nat) (x1 : (List ByteArray)) (i1 : Int), qa9 d m x1 i1 = some o1 ∧ e = [(1, .pointer (some ⟨bb1, 0, none⟩)), (3, .slice p4 ln1 k4), (4, .slice none 0 0), (10, .slice p1 d.Aa.length k1), (11, .int .i64 (d.Aa.length : Int)), (12, .int .i64 i1)] ∧ SH w w' [Ch.own S1 (x1 : List ByteArray) [.slice p4 ln1 k4], Ch.box bb1 (qaH d p1 p2 p3 k1 k2 k3) 47]) n ⟨_, _, _, _, _, _, hF, rfl, h⟩ rfl ?_)
 rintro m1 e1 w2 ⟨S1, p4, ln1, k4, x1, i1, hF, rfl, h⟩
 obtain rfl := (h.sl 0 rfl).2
 rcases m1 with _ | m1
 ·cases hF
 refine X0 5 rfl (qg rfl hF ?_ ?_) <;> intro hF
 ·refine zKSBSR ?_
  obtain ⟨y1, hy1, hF, he1, b1, _, q1, cs2, hp1, hq1, hr1, hc2⟩ := s1.ix hF
  obtain ⟨p5, k5, rfl, s4⟩ := qM hr1
  refine zxe hp1 hq1 he1 rfl (zc 0 (hc2.below h.below) rfl (qm qa h rfl rfl rfl fun w3 bb2 h => zs 0 h rfl fun w4 h => X1 5 0 h rfl (qJ qa [.tmp 18] _ ([y1.Bb] : List ByteArray) h rfl rfl rfl rfl rfl rfl rfl rfl rfl ⟨rfl, trivial⟩ rfl fun w5 p6 S2 h => ?_)))
  obtain ⟨x2, hx1, hF⟩ := qc hF
  obtain ⟨g1, hx1⟩ := qax hx1
  refine qct qa 2 h rfl (h.sl 0 rfl).1 (h.sl 0 rfl).2 rfl rfl rfl rfl rfl rfl rfl rfl rfl g1 hx1 rfl fun w6 p7 k6 S3 h => X0 7 rfl ?_
  replace h := h.pick [2, 3] rfl
  exact rK ⟨_, _, _, _, _, _, hF, rfl, h⟩ rfl
 refine qr rfl ?_
 obtain rfl := qb hF; replace hF := hK1
 refine X1 8 1 h rfl ?_
 replace h := h.nil (α := ByteArray)
 obtain ⟨o2, hF, hK2⟩ := qc hF
 refine ql (rL (fun m e w' => ∃ (S4 : Nat → Prop) (p8 : Option Addr) (ln2 : Nat) (k7 : Nat) (x3 : (List ByteArray)) (i2 : Int), qbb d m x3 i2 = some o2 ∧ e = [(1, .pointer (some ⟨bb1, 0, none⟩)), (3, .slice p4 x1.length k4), (4, .slice p8 ln2 k7), (23, .slice p3 d.Aj.length k3), (24, .int .i64 (d.Aj.length : Int)), (25, .int .i64 i2)] ∧ SH w w' [Ch.own S4 (x3 : List ByteArray) [.slice p8 ln2 k7], Ch.own S1 (x1 : List ByteArray) [.slice p4 x1.length k4], Ch.box bb1 (qaH d p1 p2 p3 k1 k2 k3) 47]) n ⟨_, _, _, _, _, _, hF, rfl, h⟩ rfl ?_)
 rintro m2 e2 w7 ⟨S4, p8, ln2, k7, x3, i2, hF, rfl, h⟩
 obtain rfl := (h.sl 0 rfl).2
 rcases m2 with _ | m2
 ·cases hF
 refine X0 5 rfl (qg rfl hF ?_ ?_) <;> intro hF
 ·refine zKSBSR ?_
  obtain ⟨y2, hy2, hF, he2, b2, _, q2, cs3, hp2, hq2, hr2, hc4⟩ := s3.ix hF
  obtain rfl := qa5 hr2
  refine zxe hp2 hq2 he2 rfl (zc 0 (hc4.below h.below) rfl (qm qa h rfl rfl rfl fun w8 bb3 h => zs 0 h rfl fun w9 h => X1 5 0 h rfl (qJ qa [.tmp 31] _ ([y2.Bb] : List ByteArray) h rfl rfl rfl rfl rfl rfl rfl rfl rfl ⟨rfl, trivial⟩ rfl fun w10 p9 S5 h => ?_)))
  obtain ⟨x4, hx2, hF⟩ := qc hF
  obtain ⟨g2, hx2⟩ := qax hx2
  refine qct qa 2 h rfl (h.sl 0 rfl).1 (h.sl 0 rfl).2 rfl rfl rfl rfl rfl rfl rfl rfl rfl g2 hx2 rfl fun w11 p10 k8 S6 h => X0 7 rfl ?_
  replace h := h.pick [2, 3, 4] rfl
  exact rK ⟨_, _, _, _, _, _, hF, rfl, h⟩ rfl
 refine qr rfl ?_
 obtain rfl := qb hF; replace hF := hK2
 refine X0 6 rfl (qi (t := 38) hF rfl ?_ ?_) <;> intro hF
 ·refine X1 10 2 h rfl (qi (t := 44) hF rfl ?_ ?_) <;> intro hF
  ·refine X0 8 rfl (qi (t := 49) hF rfl ?_ ?_) <;> intro hF
   ·refine X0 3 rfl (zcB h hF (qe4 (h.own 1 rfl)) rfl fun r1 w12 h hF => zp2 rfl (qi (t := 53) hF rfl ?_ ?_)) <;> intro hF
    ·refine X1 5 2 h rfl (zcB h hF (qe4 ⟨_, _, rfl, (h.oldS s2)⟩) rfl fun r2 w13 h hF => zp2 rfl (qi (t := 58) hF rfl ?_ ?_)) <;> intro hF
     ·exact X0 3 rfl (zcB h hF (qe4 (h.own 0 rfl)) rfl fun r3 w14 h hF => X0 3 rfl (rb h hF rfl))
     exact X0 5 rfl (rb h hF rfl)
    exact X0 10 rfl (rb h hF rfl)
   exact X0 14 rfl (rb h hF rfl)
  exact X0 19 rfl (rb h hF rfl)
 exact X0 25 rfl (rb h hF rfl)
def qf0 (_ : Nat) (list : (List qA)) : Option Int :=
 some (list.length : Int)
theorem qkX {list : (List qA)} (ha1 : GoT.R w (old w) list cs1) {r : Int} (hF : qf0 n list = some r) : RetV Tryz.prog 206 [GoT.v (List qA) cs1] w r := by
 obtain ⟨p1, k1, rfl, s1⟩ := ha1
 exact zV 5 Tryz.func206 rfl fun h => X0 10 rfl (ri h hF rfl)
def qhx (_ : Nat) (list : (List ByteArray)) : Option Int :=
 some (list.length : Int)
theorem ql5 {list : (List ByteArray)} (ha1 : GoT.R w (old w) list cs1) {r : Int} (hF : qhx n list = some r) : RetV Tryz.prog 208 [GoT.v (List ByteArray) cs1] w r := by
 obtain ⟨p1, k1, rfl, s1⟩ := ha1
 exact zV 5 Tryz.func208 rfl fun h => X0 10 rfl (ri h hF rfl)
def qdi (n : Nat) (d : qd) (net : Int) : Option Bool :=
 (qhx n d.Am).bind fun r1 =>
 (qaF n net 0 (W64 (r1 - 1))).bind fun r2 =>
 some r2
theorem qgi {d : qd} {net : Int} (ha1 : GoT.R w (old w) d cs1) {r : Bool} (hF : qdi n d net = some r) : RetV Tryz.prog 173 [GoT.v qd cs1, .int .i64 net] w r := by
 obtain ⟨p1, k1, p2, k2, p3, k3, rfl, s1, s2, s3⟩ := qat ha1
 exact zV 11 Tryz.func173 rfl fun h => zSR (qt h rfl rfl fun w1 bb1 h => X1 7 0 h rfl (zcI h hF (ql5 ⟨_, _, rfl, (h.oldS s2)⟩) rfl fun r1 w2 h hF => zp1 rfl (zcB h hF qau rfl fun r2 w3 h hF => X0 2 rfl (rb h hF rfl))))
def qc5 (n : Nat) (net : Int) (v0 : qd) : Option Bool :=
 (qdi n v0 net).bind fun r1 =>
 some (!r1)
theorem qjq {net : Int} {v0 : qd} {p1 : Option Addr} (ha1 : GoT.R w (old w) (some v0) [.pointer p1]) {r : Bool} (hF : qc5 n net v0 = some r) : RetV Tryz.prog 207 [.int .i64 net, .pointer p1] w r := by
 obtain ⟨b1, o_1, cs1, rfl, -, hr1, hc1⟩ := PtR.get ha1 rfl
 obtain ⟨p2, k1, p3, k2, p4, k3, rfl, s1, s2, s3⟩ := qat hr1
 exact zV 8 Tryz.func207 rfl fun h => X0 6 rfl (zc 0 (hc1.below h.below) rfl (zp1 rfl (zcB h hF (qgi (qan v0 (h.oldS s1) (h.oldS s2) (h.oldS s3))) rfl fun r1 w1 h hF => X0 3 rfl (rb h hF rfl))))
def qG (s : (List Int)) (f_0 : qd) : Nat → Int → Option (Flow Int Int)
 | 0, _ => none
 | n + 1, i1 =>
  bif decide (i1 < (s.length : Int)) then
   (idx s i1).bind fun y1 =>
   (qc5 n y1 f_0).bind fun r1 =>
   bif r1 then some (.ret i1) else
   qG s f_0 n (W64 (i1 + 1))
  else
   some (.nxt i1)
def qaR (n : Nat) (s : (List Int)) (f_0 : qd) : Option Int :=
 (qG s f_0 n 0).bind fun o => match o with
 | .ret r => some r
 | .nxt _ =>
  some (-1)
theorem qd9 {s : (List Int)} {f_0 : qd} (ha1 : GoT.R w (old w) s cs1) {p2 : Option Addr} (ha2 : GoT.R w (old w) (some f_0) [.pointer p2]) {r : Int} (hF : qaR n s f_0 = some r) : RetV Tryz.prog 160 [GoT.v (List Int) cs1, .func (.func 207) #[] #[.pointer p2]] w r := by
 obtain ⟨p1, k1, rfl, s1⟩ := ha1
 obtain ⟨b1, o_1, cs2, rfl, -, hr1, hc1⟩ := PtR.get ha2 rfl
 obtain ⟨p3, k2, p4, k3, p5, k4, rfl, s2, s3, s4⟩ := qat hr1
 refine zV 19 Tryz.func160 rfl fun h => X0 11 rfl ?_
 obtain ⟨o1, hF, hK1⟩ := qc hF
 refine ql (rL (fun m e w' => ∃ (i1 : Int), qG s f_0 m i1 = some o1 ∧ e = [(0, .slice p1 s.length k1), (1, .func (.func 207) #[] #[.pointer (some ⟨b1, o_1, none⟩)]), (7, .int .i64 (s.length : Int)), (8, .int .i64 i1)] ∧ SH w w' []) n ⟨_, hF, rfl, h⟩ rfl ?_)
 rintro m1 e1 w1 ⟨i1, hF, rfl, h⟩
 rcases m1 with _ | m1
 ·cases hF
 refine X0 5 rfl (qg rfl hF ?_ ?_) <;> intro hF
 ·refine X0 13 rfl ?_
  obtain ⟨y1, hy1, hF, he1, b2, _, q1, cs3, hp1, hq1, rfl, hc3⟩ := s1.ix hF
  refine zxe hp1 hq1 he1 rfl (zc 0 (hc3.below h.below) rfl (zcB h hF (qjq (h.old ha2)) rfl fun r1 w2 h hF => qcx (qg rfl hF ?_ ?_))) <;> intro hF
  ·refine X0 5 rfl ?_
   obtain rfl := qb hF; replace hF := hK1
   exact ri h hF rfl
  exact X0 6 rfl (rK ⟨_, hF, rfl, h⟩ rfl)
 refine qr rfl ?_
 obtain rfl := qb hF; replace hF := hK1
 exact X0 4 rfl (ri h hF rfl)
def qaJ (n : Nat) (s : (List Int)) (f_0 : qd) : Option Bool :=
 (qaR n s f_0).bind fun r1 =>
 some (decide (r1 ≥ 0))
theorem qdC {s : (List Int)} {f_0 : qd} (ha1 : GoT.R w (old w) s cs1) {p2 : Option Addr} (ha2 : GoT.R w (old w) (some f_0) [.pointer p2]) {r : Bool} (hF : qaJ n s f_0 = some r) : RetV Tryz.prog 111 [GoT.v (List Int) cs1, .func (.func 207) #[] #[.pointer p2]] w r := by
 obtain ⟨p1, k1, rfl, s1⟩ := ha1
 obtain ⟨b1, o_1, cs2, rfl, -, hr1, hc1⟩ := PtR.get ha2 rfl
 obtain ⟨p3, k2, p4, k3, p5, k4, rfl, s2, s3, s4⟩ := qat hr1
 exact zV 9 Tryz.func111 rfl fun h => X0 8 rfl (zcI h hF (qd9 ⟨_, _, rfl, (h.oldS s1)⟩ (h.old ha2)) rfl fun r1 w1 h hF => X0 3 rfl (rb h hF rfl))
def qdK (n : Nat) (d : qd) (l : qp) (x : qn) : Option Bool :=
 (qf0 n l.Aq).bind fun r1 =>
 (qaF n x.Bs 0 (W64 (r1 - 1))).bind fun r2 =>
 bif r2 then
  (idx l.Aq x.Bs).bind fun y1 =>
  bif ((x.Am.length : Int) == (y1.Bc.length : Int)) then
   (qaJ n x.Am d).bind fun r3 =>
   some (!r3)
  else
   some false
 else
  some false
theorem qkq {d : qd} {l : qp} {x : qn} (ha1 : GoT.R w (old w) d cs1) (ha2 : GoT.R w (old w) l cs2) (ha3 : GoT.R w (old w) x cs3) {r : Bool} (hF : qdK n d l x = some r) : RetV Tryz.prog 172 [GoT.v qd cs1, GoT.v qp cs2, GoT.v qn cs3] w r := by
 obtain ⟨p1, k1, p2, k2, p3, k3, rfl, s1, s2, s3⟩ := qat ha1
 obtain ⟨p4, k4, rfl, s4⟩ := qbs ha2
 obtain ⟨p5, k5, rfl, s5⟩ := qM ha3
 refine zV 35 Tryz.func172 rfl fun h => zSR (qt h rfl rfl fun w1 bb1 h => qt h rfl rfl fun w2 bb2 h => qt h rfl rfl fun w3 bb3 h => X0 3 rfl (rD (Y1 2 0 h rfl ?_)))
 refine Y1 2 1 h rfl ?_
 obtain ⟨r1, hr1, hF⟩ := qc hF
 refine qbc r1 (vsI _) (cB 206 rfl) (fun _ hb => qkX ⟨_, _, rfl, ((h.ext hb).oldS s4)⟩ hr1) rfl rfl rfl rfl (zd1 rfl ?_)
 obtain ⟨r2, hr2, hF⟩ := qc hF
 refine qbc r2 (vsB _) (cB 115 rfl) (fun _ hb => qau  hr2) rfl rfl rfl rfl (zd1 rfl (qaI (t := 14) hF rfl ?_ ?_)) <;> intro hF
 ·refine Y1 4 0 h rfl ?_
  refine Y1 6 1 h rfl ?_
  refine Y1 4 0 h rfl ?_
  refine Y0 1 rfl ?_
  obtain ⟨y1, hy1, hF, he1, b1, _, q1, cs4, hp1, hq1, hr3, hc1⟩ := s4.ix hF
  obtain ⟨p6, k6, p7, k7, p8, k8, rfl, s6, s7, s8⟩ := qaa hr3
  refine zdxe hp1 hq1 he1 rfl (Y0 3 rfl (zdc 2 (hc1.below h.below) rfl (Y0 6 rfl (qaI (t := 28) hF rfl ?_ ?_)))) <;> intro hF
  ·refine Y1 4 0 h rfl ?_
   refine Y0 3 rfl ?_
   obtain ⟨r3, hr4, hF⟩ := qc hF
   exact qbc r3 (vsB _) (cB 111 rfl) (fun _ hb => qdC ⟨_, _, rfl, ((h.ext hb).oldS s5)⟩ (qgc (x := d) 2 (h.ext hb) rfl ((h.ext hb).old ha1)) hr4) rfl rfl rfl rfl (Y0 4 rfl (dN h fun w4 h => rb h hF rfl))
  exact Y0 7 rfl (dN h fun w5 h => rb h hF rfl)
 exact Y0 21 rfl (dN h fun w6 h => rb h hF rfl)
def qjk (_ : Nat) (a_n : Int) : Option Bool :=
 some (a_n != 1)
theorem qnl {a_n : Int}  {r : Bool} (hF : qjk n a_n = some r) : RetV Tryz.prog 175 [.int .i64 a_n] w r := by
 exact zV 5 Tryz.func175 rfl fun h => X0 10 rfl (rb h hF rfl)
def qai (s : (List Int)) : Nat → Int → Option (Flow Int Int)
 | 0, _ => none
 | n + 1, i1 =>
  bif decide (i1 < (s.length : Int)) then
   (idx s i1).bind fun y1 =>
   (qjk n y1).bind fun r1 =>
   bif r1 then some (.ret i1) else
   qai s n (W64 (i1 + 1))
  else
   some (.nxt i1)
def qbX (n : Nat) (s : (List Int)) : Option Int :=
 (qai s n 0).bind fun o => match o with
 | .ret r => some r
 | .nxt _ =>
  some (-1)
theorem qgb {s : (List Int)} (ha1 : GoT.R w (old w) s cs1) {r : Int} (hF : qbX n s = some r) : RetV Tryz.prog 209 [GoT.v (List Int) cs1, .func (.func 175) #[] #[]] w r := by
 obtain ⟨p1, k1, rfl, s1⟩ := ha1
 refine zV 19 Tryz.func209 rfl fun h => X0 11 rfl ?_
 obtain ⟨o1, hF, hK1⟩ := qc hF
 refine ql (rL (fun m e w' => ∃ (i1 : Int), qai s m i1 = some o1 ∧ e = [(0, .slice p1 s.length k1), (1, .func (.func 175) #[] #[]), (7, .int .i64 (s.length : Int)), (8, .int .i64 i1)] ∧ SH w w' []) n ⟨_, hF, rfl, h⟩ rfl ?_)
 rintro m1 e1 w1 ⟨i1, hF, rfl, h⟩
 rcases m1 with _ | m1
 ·cases hF
 refine X0 5 rfl (qg rfl hF ?_ ?_) <;> intro hF
 ·refine X0 13 rfl ?_
  obtain ⟨y1, hy1, hF, he1, b1, _, q1, cs2, hp1, hq1, rfl, hc2⟩ := s1.ix hF
  refine zxe hp1 hq1 he1 rfl (zc 0 (hc2.below h.below) rfl (zcB h hF qnl rfl fun r1 w2 h hF => qcx (qg rfl hF ?_ ?_))) <;> intro hF
  ·refine X0 5 rfl ?_
   obtain rfl := qb hF; replace hF := hK1
   exact ri h hF rfl
  exact X0 6 rfl (rK ⟨_, hF, rfl, h⟩ rfl)
 refine qr rfl ?_
 obtain rfl := qb hF; replace hF := hK1
 exact X0 4 rfl (ri h hF rfl)
def qbC (n : Nat) (s : (List Int)) : Option Bool :=
 (qbX n s).bind fun r1 =>
 some (decide (r1 ≥ 0))
theorem qfz {s : (List Int)} (ha1 : GoT.R w (old w) s cs1) {r : Bool} (hF : qbC n s = some r) : RetV Tryz.prog 174 [GoT.v (List Int) cs1, .func (.func 175) #[] #[]] w r := by
 obtain ⟨p1, k1, rfl, s1⟩ := ha1
 exact zV 9 Tryz.func174 rfl fun h => X0 8 rfl (zcI h hF (qgb ⟨_, _, rfl, (h.oldS s1)⟩) rfl fun r1 w1 h hF => X0 3 rfl (rb h hF rfl))
def qcf (a_1 : qd) : Nat → (List Int) → Int → Option (Flow Bool ((List Int) × Int))
 | 0, _, _ => none
 | n + 1, x3, i2 =>
  bif decide (i2 < (a_1.Aj.length : Int)) then
   (idx a_1.Aj i2).bind fun y5 =>
   (
    bif (y5.Bv != 1) then
     bif (y5.Bv != 2) then some true else
     (qdi n a_1 y5.Bx).bind fun r2 =>
     some (!r2)
    else
     (qdi n a_1 y5.Bx).bind fun r3 =>
     some (!r3)).bind fun b7 =>
   bif b7 then some (.ret false) else
   bif (y5.Bv == 1) then
    (idx x3 y5.Bx).bind fun y6 =>
    (idx x3 y5.Bx).bind fun _ =>
    qcf a_1 n (setS x3 y5.Bx (W64 (y6 + 1))) (W64 (i2 + 1))
   else
    qcf a_1 n x3 (W64 (i2 + 1))
  else
   some (.nxt (x3, i2))
def qcS (a_0 : qp) (a_1 : qd) : Nat → (List Int) → Int → Option (Flow Bool ((List Int) × Int))
 | 0, _, _ => none
 | n + 1, x2, i1 =>
  bif decide (i1 < (a_1.Aa.length : Int)) then
   (idx a_1.Aa i1).bind fun y1 =>
   (qdK n a_1 a_0 y1).bind fun r1 =>
   bif (!r1) then some (.ret false) else
   (idx y1.Am (W64 ((y1.Am.length : Int) - 1))).bind fun y2 =>
   (idx x2 y2).bind fun y3 =>
   (idx x2 y2).bind fun _ =>
   qcS a_0 a_1 n (setS x2 y2 (W64 (y3 + 1))) (W64 (i1 + 1))
  else
   some (.nxt (x2, i1))
def qiD (n : Nat) (a_0 : qp) (a_1 : qd) : Option Bool :=
 (
  (qib n a_0).bind fun r5 =>
  bif (!r5) then some true else
  (qew n a_1).bind fun r6 =>
  some (!r6)).bind fun b1 =>
 bif b1 then some false else
 (mkS (a_1.Am.length : Int) (0 : Int)).bind fun x1 =>
 (qcS a_0 a_1 n x1 0).bind fun o => match o with
 | .ret r => some r
 | .nxt (x2, _) =>
  (qcf a_1 n x2 0).bind fun o => match o with
  | .ret r => some r
  | .nxt (x3, _) =>
   (qbC n x3).bind fun r4 =>
   some (!r4)
theorem qoB {a_0 : qp} {a_1 : qd} (ha1 : GoT.R w (old w) a_0 cs1) (ha2 : GoT.R w (old w) a_1 cs2) {r : Bool} (hF : qiD n a_0 a_1 = some r) : RetV Tryz.prog 134 [GoT.v qp cs1, GoT.v qd cs2] w r := by
 obtain ⟨p1, k1, rfl, s1⟩ := qbs ha1
 obtain ⟨p2, k2, p3, k3, p4, k4, rfl, s2, s3, s4⟩ := qat ha2
 refine zV 84 Tryz.func134 rfl fun h => zSR (qt h rfl rfl fun w1 bb1 h => qt h rfl rfl fun w2 bb2 h => X0 4 rfl ?_)
 obtain ⟨KF2, hKF2, o4, hF, hK4⟩ := bindE hF
 refine qbi (fun e w' => ∃ (b1 : Bool), KF2 b1 = some r ∧ e = [(2, .pointer (some ⟨bb1, 0, none⟩)), (3, .pointer (some ⟨bb2, 0, none⟩)), (17, .bool b1)] ∧ SH w w' [Ch.box bb2 (qaH a_1 p2 p3 p4 k2 k3 k4) 47, Ch.box bb1 [.slice p1 a_0.Aq.length k1] 43]) ?_ ?_
 ·refine X1 2 1 h rfl (zcB h hF (qn7 (h.old ha1)) rfl fun r5 w17 h hF => zp2 rfl (qi (t := 13) hF rfl ?_ ?_)) <;> intro hF
  ·refine X0 5 rfl ?_
   obtain rfl := qb hF
   exact rG ⟨_, hK4, rfl, h⟩ rfl
  refine X1 3 0 h rfl (zcB h hF (qk6 (h.old ha2)) rfl fun r6 w18 h hF => X0 4 rfl ?_)
  obtain rfl := qb hF
  exact rG ⟨_, hK4, rfl, h⟩ rfl
 rintro e4 w19 ⟨b1, hF, rfl, h⟩
 subst hKF2
 refine qg rfl hF ?_ ?_ <;> intro hF
 ·exact X0 4 rfl (rb h hF rfl)
 refine X1 6 0 h rfl ?_
 obtain ⟨x1, hx1, hF⟩ := qc hF
 obtain ⟨g1, g2, hx1⟩ := qN hx1
 refine qah qa Int h rfl rfl rfl rfl rfl rfl rfl rfl rfl g1 g2 hx1 rfl fun w3 S1 p5 h => X1 10 1 h rfl ?_
 obtain ⟨o1, hF, hK1⟩ := qc hF
 refine ql (rL (fun m e w' => ∃ (x2 : (List Int)) (i1 : Int), qcS a_0 a_1 m x2 i1 = some o1 ∧ e = [(2, .pointer (some ⟨bb1, 0, none⟩)), (3, .pointer (some ⟨bb2, 0, none⟩)), (5, .slice p5 x1.length x1.length), (23, .slice p2 a_1.Aa.length k2), (24, .int .i64 (a_1.Aa.length : Int)), (25, .int .i64 i1)] ∧ SH w w' [Ch.own S1 (x2 : List Int) [.slice p5 x1.length x1.length], Ch.box bb2 (qaH a_1 p2 p3 p4 k2 k3 k4) 47, Ch.box bb1 [.slice p1 a_0.Aq.length k1] 43]) n ⟨_, _, hF, rfl, h⟩ rfl ?_)
 rintro m1 e1 w4 ⟨x2, i1, hF, rfl, h⟩
 rcases m1 with _ | m1
 ·cases hF
 refine X0 5 rfl (qg rfl hF ?_ ?_) <;> intro hF
 ·refine zKSBSR ?_
  obtain ⟨y1, hy1, hF, he1, b2, _, q1, cs3, hp1, hq1, hr1, hc3⟩ := s2.ix hF
  obtain ⟨p6, k5, rfl, s5⟩ := qM hr1
  refine zxe hp1 hq1 he1 rfl (zc 0 (hc3.below h.below) rfl (qm qa h rfl rfl rfl fun w5 bb3 h => zs 0 h rfl fun w6 h => X3 7 2 3 0 h rfl (zcB h hF (qkq (h.old ha2) (h.old ha1) (qfV y1 (h.oldS s5))) rfl fun r1 w7 h hF => X0 2 rfl (qg rfl hF ?_ ?_)))) <;> intro hF
  ·refine X0 4 rfl ?_
   obtain rfl := qb hF; replace hF := hK1
   exact rb h hF rfl
  refine X2 9 0 0 h rfl ?_
  obtain ⟨y2, hy2, hF, he2, b3, _, q2, cs4, hp2, hq2, rfl, hc5⟩ := s5.ix hF
  refine zxe hp2 hq2 he2 rfl (zc 0 (hc5.below h.below) rfl ?_)
  obtain ⟨y3, hy3, hF, he3, b4, _, q3, cs5, hp3, hq3, rfl, hc6⟩ := (h.sl 1 rfl).1.ix hF
  refine zx hp3 hq3 ⟨he3.1, qU he3.2.1 (h.sl 1 rfl).2⟩ rfl (zc 0 hc6 rfl (zp1 rfl ?_))
  obtain ⟨y4, hy4, hF, he4, b5, _, q4, cs6, hp4, hq4, rfl, hc7⟩ := (h.sl 1 rfl).1.ix hF
  refine zx hp4 hq4 ⟨he4.1, qU he4.2.1 (h.sl 1 rfl).2⟩ rfl (qbr qa 1 0 (W64 (y3 + 1)) h rfl hy4 hp4 hq4 rfl hc7 rfl rfl rfl rfl rfl rfl rfl fun w8 h => X0 6 rfl ?_)
  replace h := h.pick [1, 2, 3] rfl
  exact rK ⟨_, _, hF, rfl, h⟩ rfl
 refine qr rfl ?_
 obtain rfl := qb hF; replace hF := hK1
 refine X1 8 1 h rfl ?_
 obtain ⟨o2, hF, hK2⟩ := qc hF
 refine ql ?_
 replace h := h.pick [0, 1] rfl
 refine rL (fun m e w' => ∃ (x3 : (List Int)) (i2 : Int), qcf a_1 m x3 i2 = some o2 ∧ e = [(3, .pointer (some ⟨bb2, 0, none⟩)), (5, .slice p5 x1.length x1.length), (49, .slice p4 a_1.Aj.length k4), (50, .int .i64 (a_1.Aj.length : Int)), (51, .int .i64 i2)] ∧ SH w w' [Ch.own S1 (x3 : List Int) [.slice p5 x1.length x1.length], Ch.box bb2 (qaH a_1 p2 p3 p4 k2 k3 k4) 47]) n ⟨_, _, hF, rfl, h⟩ rfl ?_
 rintro m2 e2 w9 ⟨x3, i2, hF, rfl, h⟩
 rcases m2 with _ | m2
 ·cases hF
 refine X0 5 rfl (qg rfl hF ?_ ?_) <;> intro hF
 ·refine zKSBSR ?_
  obtain ⟨y5, hy5, hF, he5, b6, _, q5, cs7, hp5, hq5, hr6, hc9⟩ := s4.ix hF
  obtain rfl := qa5 hr6
  refine zxe hp5 hq5 he5 rfl (zc 0 (hc9.below h.below) rfl (qm qa h rfl rfl rfl fun w10 bb4 h => zs 0 h rfl fun w11 h => zNSS ?_))
  obtain ⟨KF1, hKF1, o3, hF, hK3⟩ := bindE hF
  refine qbi (fun e w' => ∃ (b7 : Bool), KF1 b7 = some o2 ∧ e = [(3, .pointer (some ⟨bb2, 0, none⟩)), (5, .slice p5 x1.length x1.length), (9, .pointer (some ⟨bb4, 0, none⟩)), (49, .slice p4 a_1.Aj.length k4), (50, .int .i64 (a_1.Aj.length : Int)), (51, .int .i64 i2), (69, .bool b7)] ∧ SH w w' [Ch.box bb4 (qpH y5) 234, Ch.own S1 (x3 : List Int) [.slice p5 x1.length x1.length], Ch.box bb2 (qaH a_1 p2 p3 p4 k2 k3 k4) 47]) ?_ ?_
  ·refine X1 5 0 h rfl (qi (t := 58) hF rfl ?_ ?_) <;> intro hF
   ·refine X1 8 0 h rfl (qi (t := 63) hF rfl ?_ ?_) <;> intro hF
    ·refine X0 7 rfl ?_
     obtain rfl := qb hF
     exact rG ⟨_, hK3, rfl, h⟩ rfl
    refine X2 7 2 0 h rfl (zcB h hF (qgi (h.old ha2)) rfl fun r2 w13 h hF => X0 4 rfl ?_)
    obtain rfl := qb hF
    exact rG ⟨_, hK3, rfl, h⟩ rfl
   refine X2 12 2 0 h rfl (zcB h hF (qgi (h.old ha2)) rfl fun r3 w14 h hF => X0 4 rfl ?_)
   obtain rfl := qb hF
   exact rG ⟨_, hK3, rfl, h⟩ rfl
  rintro e3 w15 ⟨b7, hF, rfl, h⟩
  subst hKF1
  refine qg rfl hF ?_ ?_ <;> intro hF
  ·refine X0 4 rfl ?_
   obtain rfl := qb hF; replace hF := hK2
   exact rb h hF rfl
  refine X1 7 0 h rfl (qg rfl hF ?_ ?_) <;> intro hF
  ·refine X1 4 0 h rfl ?_
   obtain ⟨y6, hy6, hF, he6, b8, _, q6, cs8, hp6, hq6, rfl, hc12⟩ := (h.sl 1 rfl).1.ix hF
   refine zx hp6 hq6 ⟨he6.1, qU he6.2.1 (h.sl 1 rfl).2⟩ rfl (zc 0 hc12 rfl (zp1 rfl ?_))
   obtain ⟨y7, hy7, hF, he7, b9, _, q7, cs9, hp7, hq7, rfl, hc13⟩ := (h.sl 1 rfl).1.ix hF
   refine zx hp7 hq7 ⟨he7.1, qU he7.2.1 (h.sl 1 rfl).2⟩ rfl (qbr qa 1 0 (W64 (y6 + 1)) h rfl hy7 hp7 hq7 rfl hc13 rfl rfl rfl rfl rfl rfl rfl fun w12 h => X0 6 rfl ?_)
   replace h := h.pick [1, 2] rfl
   exact rK ⟨_, _, hF, rfl, h⟩ rfl
  refine X0 6 rfl ?_
  replace h := h.pick [1, 2] rfl
  exact rK ⟨_, _, hF, rfl, h⟩ rfl
 refine qr rfl ?_
 obtain rfl := qb hF; replace hF := hK2
 exact X0 3 rfl (zcB h hF (qfz (h.own 0 rfl)) rfl fun r4 w16 h hF => X0 3 rfl (rb h hF rfl))
def qbv (i1 : Int) (y1 : qn) : Nat → (List Tplace) → Int → Option ((List Tplace) × Int)
 | 0, _, _ => none
 | n + 1, x2, i2 =>
  bif decide (i2 < (y1.Am.length : Int)) then
   (idx y1.Am i2).bind fun y2 =>
   (appS x2 ([(⟨i1, i2, y2, (i2 == (W64 ((y1.Am.length : Int) - 1)))⟩ : Tplace)] : List Tplace)).bind fun x3 =>
   qbv i1 y1 n x3 (W64 (i2 + 1))
  else
   some (x2, i2)
def qbw (d : qd) : Nat → (List Tplace) → Int → Option ((List Tplace) × Int)
 | 0, _, _ => none
 | n + 1, x4, i3 =>
  bif decide (i3 < (d.Aj.length : Int)) then
   (idx d.Aj i3).bind fun y3 =>
   (appS x4 ([(⟨(-1), i3, y3.Bx, (y3.Bv == 1)⟩ : Tplace)] : List Tplace)).bind fun x5 =>
   qbw d n x5 (W64 (i3 + 1))
  else
   some (x4, i3)
def qbz (d : qd) : Nat → (List Tplace) → Int → Option ((List Tplace) × Int)
 | 0, _, _ => none
 | n + 1, x1, i1 =>
  bif decide (i1 < (d.Aa.length : Int)) then
   (idx d.Aa i1).bind fun y1 =>
   (qbv i1 y1 n x1 0).bind fun o => match o with
   | (x2, _) =>
    qbz d n x2 (W64 (i1 + 1))
  else
   some (x1, i1)
def qca (n : Nat) (d : qd) : Option (List Tplace) :=
 (qbz d n ([] : List Tplace) 0).bind fun o => match o with
 | (x1, _) =>
  (qbw d n x1 0).bind fun o => match o with
  | (x4, _) =>
   some x4
theorem qec {d : qd} (ha1 : GoT.R w (old w) d cs1) {r : (List Tplace)} (hF : qca n d = some r) : RetV Tryz.prog 135 [GoT.v qd cs1] w r := by
 obtain ⟨p1, k1, p2, k2, p3, k3, rfl, s1, s2, s3⟩ := qat ha1
 refine zV 61 Tryz.func135 rfl fun h => zSR (qt h rfl rfl fun w1 bb1 h => X1 14 0 h rfl ?_)
 replace h := h.nil (α := Tplace)
 obtain ⟨o1, hF, hK1⟩ := qc hF
 refine ql (rL (fun m e w' => ∃ (S1 : Nat → Prop) (p4 : Option Addr) (ln1 : Nat) (k4 : Nat) (x1 : (List Tplace)) (i1 : Int), qbz d m x1 i1 = some o1 ∧ e = [(1, .pointer (some ⟨bb1, 0, none⟩)), (3, .slice p4 ln1 k4), (11, .slice p1 d.Aa.length k1), (12, .int .i64 (d.Aa.length : Int)), (13, .int .i64 i1)] ∧ SH w w' [Ch.own S1 (x1 : List Tplace) [.slice p4 ln1 k4], Ch.box bb1 (qaH d p1 p2 p3 k1 k2 k3) 47]) n ⟨_, _, _, _, _, _, hF, rfl, h⟩ rfl ?_)
 rintro m1 e1 w2 ⟨S1, p4, ln1, k4, x1, i1, hF, rfl, h⟩
 obtain rfl := (h.sl 0 rfl).2
 rcases m1 with _ | m1
 ·cases hF
 refine X0 5 rfl (qg rfl hF ?_ ?_) <;> intro hF
 ·refine X0 6 rfl ?_
  obtain ⟨y1, hy1, hF, he1, b1, _, q1, cs2, hp1, hq1, hr1, hc2⟩ := s1.ix hF
  obtain ⟨p5, k5, rfl, s4⟩ := qM hr1
  refine zxe hp1 hq1 he1 rfl (zc 0 (hc2.below h.below) rfl (qm qa h rfl rfl rfl fun w3 bb2 h => zp1 rfl (zs 0 h rfl fun w4 h => X1 8 0 h rfl ?_)))
  obtain ⟨o2, hF, hK2⟩ := qc hF
  refine ql (rL (fun m e w' => ∃ (S2 : Nat → Prop) (p6 : Option Addr) (ln2 : Nat) (k6 : Nat) (x2 : (List Tplace)) (i2 : Int), qbv i1 y1 m x2 i2 = some o2 ∧ e = [(1, .pointer (some ⟨bb1, 0, none⟩)), (3, .slice p6 ln2 k6), (4, .int .i64 i1), (5, .pointer (some ⟨bb2, 0, none⟩)), (11, .slice p1 d.Aa.length k1), (12, .int .i64 (d.Aa.length : Int)), (13, .int .i64 i1), (19, .slice p5 y1.Am.length k5), (20, .int .i64 (y1.Am.length : Int)), (21, .int .i64 i2)] ∧ SH w w' [Ch.box bb2 (qiY y1 p5 k5) 168, Ch.own S2 (x2 : List Tplace) [.slice p6 ln2 k6], Ch.box bb1 (qaH d p1 p2 p3 k1 k2 k3) 47]) m1 ⟨_, _, _, _, _, _, hF, rfl, h⟩ rfl ?_)
  rintro m2 e2 w5 ⟨S2, p6, ln2, k6, x2, i2, hF, rfl, h⟩
  obtain rfl := (h.sl 1 rfl).2
  rcases m2 with _ | m2
  ·cases hF
  refine X0 5 rfl (qg rfl hF ?_ ?_) <;> intro hF
  ·refine X0 6 rfl ?_
   obtain ⟨y2, hy2, hF, he2, b2, _, q2, cs3, hp2, hq2, rfl, hc4⟩ := s4.ix hF
   refine zxe hp2 hq2 he2 rfl (zc 0 (hc4.below h.below) rfl (X1 14 0 h rfl (r_v (qX qa [0, 1, 2, 3] [.tmp 27, .tmp 28, .tmp 29, .tmp 35] rfl rfl rfl rfl rfl rfl rfl rfl) rfl (qJ qa [.tmp 36] _ ([(⟨i1, i2, y2, (i2 == (W64 ((y1.Am.length : Int) - 1)))⟩ : Tplace)] : List Tplace) h rfl rfl rfl rfl rfl rfl rfl rfl rfl ⟨(qlU (⟨i1, i2, y2, (i2 == (W64 ((y1.Am.length : Int) - 1)))⟩ : Tplace)), trivial⟩ rfl fun w6 p7 S3 h => ?_))))
   obtain ⟨x3, hx1, hF⟩ := qc hF
   obtain ⟨g1, hx1⟩ := qax hx1
   refine qct qa 2 h rfl (h.sl 0 rfl).1 (h.sl 0 rfl).2 rfl rfl rfl rfl rfl rfl rfl rfl rfl g1 hx1 rfl fun w7 p8 k7 S4 h => X0 7 rfl ?_
   replace h := h.pick [1, 2, 3] rfl
   exact rK ⟨_, _, _, _, _, _, hF, rfl, h⟩ rfl
  refine qr rfl ?_
  obtain rfl := qb hF; replace hF := hK2
  refine X0 5 rfl ?_
  replace h := h.pick [1, 2] rfl
  exact rK ⟨_, _, _, _, _, _, hF, rfl, h⟩ rfl
 refine qr rfl ?_
 obtain rfl := qb hF; replace hF := hK1
 refine X1 8 1 h rfl ?_
 obtain ⟨o3, hF, hK3⟩ := qc hF
 refine ql ?_
 replace h := h.pick [0] rfl
 refine rL (fun m e w' => ∃ (S5 : Nat → Prop) (p9 : Option Addr) (ln3 : Nat) (k8 : Nat) (x4 : (List Tplace)) (i3 : Int), qbw d m x4 i3 = some o3 ∧ e = [(3, .slice p9 ln3 k8), (42, .slice p3 d.Aj.length k3), (43, .int .i64 (d.Aj.length : Int)), (44, .int .i64 i3)] ∧ SH w w' [Ch.own S5 (x4 : List Tplace) [.slice p9 ln3 k8]]) n ⟨_, _, _, _, _, _, hF, rfl, h⟩ rfl ?_
 rintro m3 e3 w8 ⟨S5, p9, ln3, k8, x4, i3, hF, rfl, h⟩
 obtain rfl := (h.sl 0 rfl).2
 rcases m3 with _ | m3
 ·cases hF
 refine X0 5 rfl (qg rfl hF ?_ ?_) <;> intro hF
 ·refine X0 6 rfl ?_
  obtain ⟨y3, hy3, hF, he3, b3, _, q3, cs4, hp3, hq3, hr3, hc6⟩ := s3.ix hF
  obtain rfl := qa5 hr3
  refine zxe hp3 hq3 he3 rfl (zc 0 (hc6.below h.below) rfl (qm qa h rfl rfl rfl fun w9 bb3 h => zp1 rfl (zs 0 h rfl fun w10 h => X2 9 0 0 h rfl (r_v (qX qa [0, 1, 2, 3] [.const (.int .i64 (-1)), .tmp 50, .tmp 52, .tmp 55] rfl rfl rfl rfl rfl rfl rfl rfl) rfl (qJ qa [.tmp 56] _ ([(⟨(-1), i3, y3.Bx, (y3.Bv == 1)⟩ : Tplace)] : List Tplace) h rfl rfl rfl rfl rfl rfl rfl rfl rfl ⟨(qlU (⟨(-1), i3, y3.Bx, (y3.Bv == 1)⟩ : Tplace)), trivial⟩ rfl fun w11 p10 S6 h => ?_)))))
  obtain ⟨x5, hx2, hF⟩ := qc hF
  obtain ⟨g2, hx2⟩ := qax hx2
  refine qct qa 2 h rfl (h.sl 0 rfl).1 (h.sl 0 rfl).2 rfl rfl rfl rfl rfl rfl rfl rfl rfl g2 hx2 rfl fun w12 p11 k9 S7 h => X0 7 rfl ?_
  replace h := h.pick [2] rfl
  exact rK ⟨_, _, _, _, _, _, hF, rfl, h⟩ rfl
 refine qr rfl ?_
 obtain rfl := qb hF; replace hF := hK3
 refine X0 5 rfl ?_
 obtain rfl := qb hF
 exact rO 0 h rfl ⟨rfl, trivial⟩
def qa2 (a_w : qP) : Nat → Int → Option (Flow Bool Int)
 | 0, _ => none
 | n + 1, i1 =>
  bif decide (i1 < (a_w.Ak.length : Int)) then
   (idx a_w.Ak i1).bind fun y1 =>
   bif (i1 == 0) then
    bif (y1 != (-1)) then some (.ret false) else
    (idx a_w.Bw 0).bind fun y2 =>
    bif (y2 != 0) then some (.ret false) else
    bif decide (i1 > 0) then
     (qaF n y1 0 (W64 (i1 - 1))).bind fun r1 =>
     bif (!r1) then some (.ret false) else
     qa2 a_w n (W64 (i1 + 1))
    else
     qa2 a_w n (W64 (i1 + 1))
   else
    bif decide (i1 > 0) then
     (qaF n y1 0 (W64 (i1 - 1))).bind fun r2 =>
     bif (!r2) then some (.ret false) else
     qa2 a_w n (W64 (i1 + 1))
    else
     qa2 a_w n (W64 (i1 + 1))
  else
   some (.nxt i1)
def qgN (n : Nat) (a_w : qP) : Option Bool :=
 (qa2 a_w n 0).bind fun o => match o with
 | .ret r => some r
 | .nxt _ =>
  some true
theorem qm8 {a_w : qP} (ha1 : GoT.R w (old w) a_w cs1) {r : Bool} (hF : qgN n a_w = some r) : RetV Tryz.prog 176 [GoT.v qP cs1] w r := by
 obtain ⟨p1, k1, p2, k2, p3, k3, p4, k4, rfl, s1, s2, s3, s4⟩ := qaK ha1
 refine zV 38 Tryz.func176 rfl fun h => zSR (qt h rfl rfl fun w1 bb1 h => X1 10 0 h rfl ?_)
 obtain ⟨o1, hF, hK1⟩ := qc hF
 refine ql (rL (fun m e w' => ∃ (i1 : Int), qa2 a_w m i1 = some o1 ∧ e = [(1, .pointer (some ⟨bb1, 0, none⟩)), (6, .slice p1 a_w.Ak.length k1), (7, .int .i64 (a_w.Ak.length : Int)), (8, .int .i64 i1)] ∧ SH w w' [Ch.box bb1 (qf6 a_w p1 p2 p3 p4 k1 k2 k3 k4) 186]) n ⟨_, hF, rfl, h⟩ rfl ?_)
 rintro m1 e1 w2 ⟨i1, hF, rfl, h⟩
 rcases m1 with _ | m1
 ·cases hF
 refine X0 5 rfl (qg rfl hF ?_ ?_) <;> intro hF
 ·refine X0 6 rfl ?_
  obtain ⟨y1, hy1, hF, he1, b1, _, q1, cs2, hp1, hq1, rfl, hc2⟩ := s1.ix hF
  refine zxe hp1 hq1 he1 rfl (zc 0 (hc2.below h.below) rfl (X0 8 rfl (qi (t := 15) hF rfl ?_ ?_))) <;> intro hF
  ·refine X0 6 rfl (qi (t := 18) hF rfl ?_ ?_) <;> intro hF
   ·refine X0 20 rfl (qbT rfl rfl (X0 4 rfl ?_))
    obtain rfl := qb hF; replace hF := hK1
    exact rb h hF rfl
   refine X1 5 0 h rfl ?_
   obtain ⟨y2, hy2, hF, he2, b2, _, q2, cs3, hp2, hq2, rfl, hc3⟩ := s2.ix hF
   refine zxe hp2 hq2 he2 rfl (X0 1 rfl (zc 0 (hc3.below h.below) rfl (X0 6 rfl (qi (t := 26) hF rfl ?_ ?_)))) <;> intro hF
   ·refine X0 11 rfl (qbT rfl rfl (X0 4 rfl ?_))
    obtain rfl := qb hF; replace hF := hK1
    exact rb h hF rfl
   refine X0 6 rfl (qi (t := 29) hF rfl ?_ ?_) <;> intro hF
   ·refine X0 7 rfl (zcB h hF qau rfl fun r1 w3 h hF => X0 6 rfl (qg rfl hF ?_ ?_)) <;> intro hF
    ·refine X0 4 rfl ?_
     obtain rfl := qb hF; replace hF := hK1
     exact rb h hF rfl
    exact X0 6 rfl (rK ⟨_, hF, rfl, h⟩ rfl)
   exact X0 9 rfl (qbQ rfl rfl (X0 6 rfl (rK ⟨_, hF, rfl, h⟩ rfl)))
  refine X0 17 rfl (qi (t := 29) hF rfl ?_ ?_) <;> intro hF
  ·refine X0 7 rfl (zcB h hF qau rfl fun r2 w4 h hF => X0 6 rfl (qg rfl hF ?_ ?_)) <;> intro hF
   ·refine X0 4 rfl ?_
    obtain rfl := qb hF; replace hF := hK1
    exact rb h hF rfl
   exact X0 6 rfl (rK ⟨_, hF, rfl, h⟩ rfl)
  exact X0 9 rfl (qbQ rfl rfl (X0 6 rfl (rK ⟨_, hF, rfl, h⟩ rfl)))
 refine qr rfl ?_
 obtain rfl := qb hF; replace hF := hK1
 exact X0 4 rfl (rb h hF rfl)
def qkx (n : Nat) (a_w : qP) (sinks : Int) : Option Bool :=
 (qbh n a_w.Ak).bind fun r1 =>
 (qaF n r1 1 8).bind fun r2 =>
 bif r2 then
  (qbh n a_w.Bw).bind fun r3 =>
  bif (r3 == r1) then
   (qbh n a_w.Bt).bind fun r4 =>
   bif (r4 == r1) then
    (qgN n a_w).bind fun r5 =>
    bif r5 then
     (qbI n a_w.Bw 0 1000).bind fun r6 =>
     bif r6 then
      (qbI n a_w.Bt 0 500).bind fun r7 =>
      bif r7 then
       (qbh n a_w.Bl).bind fun r8 =>
       bif (r8 == sinks) then
        (qbI n a_w.Bl 0 (W64 (r1 - 1))).bind fun r9 =>
        some r9
       else
        some false
      else
       some false
     else
      some false
    else
     some false
   else
    some false
  else
   some false
 else
  some false
theorem qp0 {a_w : qP} {sinks : Int} (ha1 : GoT.R w (old w) a_w cs1) {r : Bool} (hF : qkx n a_w sinks = some r) : RetV Tryz.prog 136 [GoT.v qP cs1, .int .i64 sinks] w r := by
 obtain ⟨p1, k1, p2, k2, p3, k3, p4, k4, rfl, s1, s2, s3, s4⟩ := qaK ha1
 refine zV 53 Tryz.func136 rfl fun h => zSR (qt h rfl rfl fun w1 bb1 h => X1 6 0 h rfl (zcI h hF (qce ⟨_, _, rfl, (h.oldS s1)⟩) rfl fun r1 w2 h hF => X0 5 rfl (zcB h hF qau rfl fun r2 w3 h hF => zp1 rfl (qi (t := 11) hF rfl ?_ ?_)))) <;> intro hF
 ·refine X1 5 0 h rfl (zcI h hF (qce ⟨_, _, rfl, (h.oldS s2)⟩) rfl fun r3 w4 h hF => X0 6 rfl (qi (t := 18) hF rfl ?_ ?_)) <;> intro hF
  ·refine X1 5 0 h rfl (zcI h hF (qce ⟨_, _, rfl, (h.oldS s3)⟩) rfl fun r4 w5 h hF => X0 6 rfl (qi (t := 25) hF rfl ?_ ?_)) <;> intro hF
   ·refine X1 3 0 h rfl (zcB h hF (qm8 (h.old ha1)) rfl fun r5 w6 h hF => zp2 rfl (qi (t := 29) hF rfl ?_ ?_)) <;> intro hF
    ·refine X1 5 0 h rfl (zcB h hF (qbZ ⟨_, _, rfl, (h.oldS s2)⟩) rfl fun r6 w7 h hF => zp2 rfl (qi (t := 34) hF rfl ?_ ?_)) <;> intro hF
     ·refine X1 5 0 h rfl (zcB h hF (qbZ ⟨_, _, rfl, (h.oldS s3)⟩) rfl fun r7 w8 h hF => zp2 rfl (qi (t := 39) hF rfl ?_ ?_)) <;> intro hF
      ·refine X1 5 0 h rfl (zcI h hF (qce ⟨_, _, rfl, (h.oldS s4)⟩) rfl fun r8 w9 h hF => X0 6 rfl (qi (t := 46) hF rfl ?_ ?_)) <;> intro hF
       ·exact X1 9 0 h rfl (zcB h hF (qbZ ⟨_, _, rfl, (h.oldS s4)⟩) rfl fun r9 w10 h hF => X0 3 rfl (rb h hF rfl))
       exact X0 8 rfl (rb h hF rfl)
      exact X0 15 rfl (rb h hF rfl)
     exact X0 20 rfl (rb h hF rfl)
    exact X0 25 rfl (rb h hF rfl)
   exact X0 29 rfl (rb h hF rfl)
  exact X0 36 rfl (rb h hF rfl)
 exact X0 43 rfl (rb h hF rfl)
def qei (b : qf) (x2 : (List Int)) : Nat → Int → Option (Flow Bool Int)
 | 0, _ => none
 | n + 1, i2 =>
  bif decide (i2 < (b.Ac.length : Int)) then
   (idx b.Ac i2).bind fun y4 =>
   (idx x2 i2).bind fun y5 =>
   (qkx n y4 y5).bind fun r2 =>
   bif (!r2) then some (.ret false) else
   qei b x2 n (W64 (i2 + 1))
  else
   some (.nxt i2)
def qcN (r1 : (List Tplace)) : Nat → (List Int) → Int → Option ((List Int) × Int)
 | 0, _, _ => none
 | n + 1, x2, i1 =>
  bif decide (i1 < (r1.length : Int)) then
   (idx r1 i1).bind fun y1 =>
   bif (!y1.drives) then
    (idx x2 y1.net).bind fun y2 =>
    (idx x2 y1.net).bind fun _ =>
    qcN r1 n (setS x2 y1.net (W64 (y2 + 1))) (W64 (i1 + 1))
   else
    qcN r1 n x2 (W64 (i1 + 1))
  else
   some (x2, i1)
def qh2 (n : Nat) (b : qf) : Option Bool :=
 (
  (qiD n (⟨b.Av.Aq⟩ : qp) (⟨b.Ab.Aa, b.Ab.Am, b.Ab.Aj⟩ : qd)).bind fun r3 =>
  bif (!r3) then some true else
  some ((b.Ac.length : Int) != (b.Ab.Am.length : Int))).bind fun b1 =>
 bif b1 then some false else
 (mkS (b.Ac.length : Int) (0 : Int)).bind fun x1 =>
 (qca n (⟨b.Ab.Aa, b.Ab.Am, b.Ab.Aj⟩ : qd)).bind fun r1 =>
 (qcN r1 n x1 0).bind fun o => match o with
 | (x2, _) =>
  (qei b x2 n 0).bind fun o => match o with
  | .ret r => some r
  | .nxt _ =>
   some true
theorem qpp {b : qf} (ha1 : GoT.R w (old w) b cs1) {r : Bool} (hF : qh2 n b = some r) : RetV Tryz.prog 93 [GoT.v qf cs1] w r := by
 obtain ⟨p1, k1, p2, k2, p3, k3, p4, k4, p5, k5, rfl, s1, s2, s3, s4, s5⟩ := qZ ha1
 refine zV 63 Tryz.func93 rfl fun h => zSR (qt h rfl rfl fun w1 bb1 h => X0 4 rfl ?_)
 obtain ⟨KF1, hKF1, o3, hF, hK3⟩ := bindE hF
 refine qbi (fun e w' => ∃ (b1 : Bool), KF1 b1 = some r ∧ e = [(1, .pointer (some ⟨bb1, 0, none⟩)), (23, .bool b1)] ∧ SH w w' [Ch.box bb1 (qaO b p1 p2 p3 p4 p5 k1 k2 k3 k4 k5) 50]) ?_ ?_
 ·refine X2 5 0 0 h rfl (zcB h hF (qoB (qdH _ (h.oldS s1)) (qan _ (h.oldS s2) (h.oldS s3) (h.oldS s4))) rfl fun r3 w12 h hF => zp2 rfl (qi (t := 14) hF rfl ?_ ?_)) <;> intro hF
  ·refine X0 10 rfl ?_
   obtain rfl := qb hF
   exact rG ⟨_, hK3, rfl, h⟩ rfl
  refine X2 18 0 0 h rfl ?_
  obtain rfl := qb hF
  exact rG ⟨_, hK3, rfl, h⟩ rfl
 rintro e3 w13 ⟨b1, hF, rfl, h⟩
 subst hKF1
 refine qg rfl hF ?_ ?_ <;> intro hF
 ·exact X0 4 rfl (rb h hF rfl)
 refine X1 6 0 h rfl ?_
 obtain ⟨x1, hx1, hF⟩ := qc hF
 obtain ⟨g1, g2, hx1⟩ := qN hx1
 refine qah qa Int h rfl rfl rfl rfl rfl rfl rfl rfl rfl g1 g2 hx1 rfl fun w2 S1 p6 h => X1 7 1 h rfl (zcL h hF (qec (qan _ (h.oldS s2) (h.oldS s3) (h.oldS s4))) rfl fun r1 w3 S2 p7 k6 h hF => X0 3 rfl ?_)
 obtain ⟨o1, hF, hK1⟩ := qc hF
 refine ql (rL (fun m e w' => ∃ (x2 : (List Int)) (i1 : Int), qcN r1 m x2 i1 = some o1 ∧ e = [(1, .pointer (some ⟨bb1, 0, none⟩)), (3, .slice p6 x1.length x1.length), (30, .slice p7 r1.length k6), (31, .int .i64 (r1.length : Int)), (32, .int .i64 i1)] ∧ SH w w' [Ch.own S2 (r1 : List Tplace) [.slice p7 r1.length k6], Ch.own S1 (x2 : List Int) [.slice p6 x1.length x1.length], Ch.box bb1 (qaO b p1 p2 p3 p4 p5 k1 k2 k3 k4 k5) 50]) n ⟨_, _, hF, rfl, h⟩ rfl ?_)
 rintro m1 e1 w4 ⟨x2, i1, hF, rfl, h⟩
 rcases m1 with _ | m1
 ·cases hF
 refine X0 5 rfl (qg rfl hF ?_ ?_) <;> intro hF
 ·refine zKSBSR ?_
  obtain ⟨y1, hy1, hF, he1, b2, _, q1, cs2, hp1, hq1, hr2, hc3⟩ := (h.sl 0 rfl).1.ix hF
  obtain rfl := qgh hr2
  refine zx hp1 hq1 ⟨he1.1, qU he1.2.1 (h.sl 0 rfl).2⟩ rfl (zc 0 hc3 rfl (qm qa h rfl rfl rfl fun w5 bb2 h => zs 0 h rfl fun w6 h => X1 7 0 h rfl (qg rfl hF ?_ ?_))) <;> intro hF
  ·refine X1 4 0 h rfl ?_
   obtain ⟨y2, hy2, hF, he2, b3, _, q2, cs3, hp2, hq2, rfl, hc5⟩ := (h.sl 2 rfl).1.ix hF
   refine zx hp2 hq2 ⟨he2.1, qU he2.2.1 (h.sl 2 rfl).2⟩ rfl (zc 0 hc5 rfl (zp1 rfl ?_))
   obtain ⟨y3, hy3, hF, he3, b4, _, q3, cs4, hp3, hq3, rfl, hc6⟩ := (h.sl 2 rfl).1.ix hF
   refine zx hp3 hq3 ⟨he3.1, qU he3.2.1 (h.sl 2 rfl).2⟩ rfl (qbr qa 2 0 (W64 (y2 + 1)) h rfl hy3 hp3 hq3 rfl hc6 rfl rfl rfl rfl rfl rfl rfl fun w7 h => X0 6 rfl ?_)
   replace h := h.pick [1, 2, 3] rfl
   exact rK ⟨_, _, hF, rfl, h⟩ rfl
  refine X0 6 rfl ?_
  replace h := h.pick [1, 2, 3] rfl
  exact rK ⟨_, _, hF, rfl, h⟩ rfl
 refine qr rfl ?_
 obtain rfl := qb hF; replace hF := hK1
 refine X1 8 2 h rfl ?_
 obtain ⟨o2, hF, hK2⟩ := qc hF
 refine ql ?_
 replace h := h.pick [1] rfl
 refine rL (fun m e w' => ∃ (i2 : Int), qei b x2 m i2 = some o2 ∧ e = [(3, .slice p6 x1.length x1.length), (48, .slice p5 b.Ac.length k5), (49, .int .i64 (b.Ac.length : Int)), (50, .int .i64 i2)] ∧ SH w w' [Ch.own S1 (x2 : List Int) [.slice p6 x1.length x1.length]]) n ⟨_, hF, rfl, h⟩ rfl ?_
 rintro m2 e2 w8 ⟨i2, hF, rfl, h⟩
 rcases m2 with _ | m2
 ·cases hF
 refine X0 5 rfl (qg rfl hF ?_ ?_) <;> intro hF
 ·refine X0 6 rfl ?_
  obtain ⟨y4, hy4, hF, he4, b5, _, q4, cs5, hp4, hq4, hr5, hc8⟩ := s5.ix hF
  obtain ⟨p8, k7, p9, k8, p10, k9, p11, k10, rfl, s6, s7, s8, s9⟩ := qaK hr5
  refine zxe hp4 hq4 he4 rfl (zc 0 (hc8.below h.below) rfl (qm qa h rfl rfl rfl fun w9 bb3 h => zp1 rfl (zs 0 h rfl fun w10 h => zNS (rD (Y1 1 0 h rfl ?_)))))
  refine zd2 rfl ?_
  obtain ⟨y5, hy5, hF, he5, b6, _, q5, cs6, hp5, hq5, rfl, hc9⟩ := (h.sl 1 rfl).1.ix hF
  refine zdx hp5 hq5 ⟨he5.1, qU he5.2.1 (h.sl 1 rfl).2⟩ rfl (zdc 0 hc9 rfl ?_)
  obtain ⟨r2, hr7, hF⟩ := qc hF
  refine qbc r2 (vsB _) (cB 136 rfl) (fun _ hb => qp0 (qjO y4 ((h.ext hb).oldS s6) ((h.ext hb).oldS s7) ((h.ext hb).oldS s8) ((h.ext hb).oldS s9)) hr7) rfl rfl rfl rfl (zd1 rfl (dN h fun w11 h => qg rfl hF ?_ ?_)) <;> intro hF
  ·refine X0 4 rfl ?_
   obtain rfl := qb hF; replace hF := hK2
   exact rb h hF rfl
  refine X0 6 rfl ?_
  replace h := h.pick [1] rfl
  exact rK ⟨_, hF, rfl, h⟩ rfl
 refine qr rfl ?_
 obtain rfl := qb hF; replace hF := hK2
 exact X0 4 rfl (rb h hF rfl)
end Go.Fw


namespace Go.Fw
open Go
def qcq (a : (List Int)) : Nat := a.length
theorem qdh {a : (List Int)} (h : (rngL rngI) a) (w : qcq a ≤ 1048576) : (okL okI) a :=
 ⟨by simp only [qcq] at w; omega, fun x hx => h.2 x hx⟩
def qhA (x : qv) : Prop := (rngL rngI) x.Bm ∧ (rngL rngI) x.Bj ∧ (rngL rngI) x.Bh
def qfv (x : qv) : Nat := qcq x.Bm + qcq x.Bj + qcq x.Bh
structure qia (x : qv) : Prop where
 Bm : (okL okI) x.Bm
 Bj : (okL okI) x.Bj
 Bh : (okL okI) x.Bh
theorem qtG {x : qv} (h : qhA x) (w : qfv x ≤ 1048576) : qia x := ⟨qdh (h.1) (by simp only [qfv] at w; omega), qdh (h.2.1) (by simp only [qfv] at w; omega), qdh (h.2.2) (by simp only [qfv] at w; omega)⟩
def qfI (a : (List qv)) : Nat := a.length + (a.map fun x => qfv x).sum
theorem qoW {a : (List qv)} (h : (rngL qhA) a) (w : qfI a ≤ 1048576) : (okL qia) a :=
 ⟨by simp only [qfI] at w; omega, fun x hx => qtG (h.2 x hx) (by have := qef (wt := fun x : qv => qfv x) hx; simp only [qfI] at w; omega)⟩
def qlM (x : qO) : Prop := rngI x.Be ∧ rngI x.Bk ∧ rngI x.To ∧ rngI x.Bn ∧ (rngL qhA) x.Bp ∧ (rngL qhA) x.Bd
def qkC (x : qO) : Nat := qfI x.Bp + qfI x.Bd
structure qnz (x : qO) : Prop where
 Be : okI x.Be
 Bk : okI x.Bk
 To : okI x.To
 Bn : okI x.Bn
 Bp : (okL qia) x.Bp
 Bd : (okL qia) x.Bd
theorem qvO {x : qO} (h : qlM x) (w : qkC x ≤ 1048576) : qnz x := ⟨h.1, h.2.1, h.2.2.1, h.2.2.2.1, qoW (h.2.2.2.2.1) (by simp only [qkC] at w; omega), qoW (h.2.2.2.2.2) (by simp only [qkC] at w; omega)⟩
theorem qfh {a : (List Int)} (h : qcq a ≤ 1048576) : Ev (fun n => qbg n a a) true := by
 have hl : a.length ≤ 1048576 := by simp only [qcq] at h; omega
 unfold qbg
 exact Ev.ff (by simp) (Ev.bind (b := .nxt (a.length : Int)) (qiI (eqf := fun _ x y => some (!(x != y))) (fun x _ => Ev.now (by simp))
  (fun n => by simp only [qe7, qk (jb _), cond_false])
  (fun n j x hx => by
   have hj := (List.getElem?_eq_some_iff.1 hx).1
   simp only [qe7, qj hj, cond_true, qaw hx, ja, Bool.not_not, wS j])) .done)
theorem qvY {a : qv} (h : qfv a ≤ 1048576) : Ev (fun n => qii n a a) true := by
 unfold qii
 simp only [qfv] at h
 exact Ev.bind (qfh (a := a.Bm) (by omega)) (Ev.ff rfl (Ev.bind (qfh (a := a.Bj) (by omega)) (Ev.ff rfl (Ev.bind (qfh (a := a.Bh) (by omega)) (Ev.ff rfl (.done))))))
theorem qrp {a : (List qv)} (h : qfI a ≤ 1048576) : Ev (fun n => qg4 n a a) true := by
 have hl : a.length ≤ 1048576 := by simp only [qfI] at h; omega
 unfold qg4
 exact Ev.ff (by simp) (Ev.bind (b := .nxt (a.length : Int)) (qiI (eqf := qii) (fun x hx => qvY (by have := qef (wt := fun x : qv => qfv x) hx; simp only [qfI] at h; omega))
  (fun n => by simp only [qe2, qk (jb _), cond_false])
  (fun n j x hx => by
   have hj := (List.getElem?_eq_some_iff.1 hx).1
   simp only [qe2, qj hj, cond_true, qaw hx, ja, wS j])) .done)
theorem qxz {a : qO} (h : qkC a ≤ 1048576) : Ev (fun n => qka n a a) true := by
 unfold qka
 simp only [qkC] at h
 exact Ev.ff qaX (Ev.ff qaX (Ev.ff qaX (Ev.ff qaX (Ev.bind (qrp (a := a.Bp) (by omega)) (Ev.ff rfl (Ev.bind (qrp (a := a.Bd) (by omega)) (Ev.ff rfl (.done))))))))
def qkm (a : (List qO)) : Nat := a.length + (a.map fun x => qkC x).sum
theorem qt7 {a : (List qO)} (h : (rngL qlM) a) (w : qkm a ≤ 1048576) : (okL qnz) a :=
 ⟨by simp only [qkm] at w; omega, fun x hx => qvO (h.2 x hx) (by have := qef (wt := fun x : qO => qkC x) hx; simp only [qkm] at w; omega)⟩
theorem qxf {a : (List qO)} (h : qkm a ≤ 1048576) : Ev (fun n => qkJ n a a) true := by
 have hl : a.length ≤ 1048576 := by simp only [qkm] at h; omega
 unfold qkJ
 exact Ev.ff (by simp) (Ev.bind (b := .nxt (a.length : Int)) (qiI (eqf := qka) (fun x hx => qxz (by have := qef (wt := fun x : qO => qkC x) hx; simp only [qkm] at h; omega))
  (fun n => by simp only [qgu, qk (jb _), cond_false])
  (fun n j x hx => by
   have hj := (List.getElem?_eq_some_iff.1 hx).1
   simp only [qgu, qj hj, cond_true, qaw hx, ja, wS j])) .done)
def qlr (x : qap) : Prop := rngS x.Bb ∧ rngI x.Bv ∧ rngI x.Bt ∧ rngB x.Bq
def qmE (x : qap) : Nat := x.Bb.size
structure qml (x : qap) : Prop where
 Bb : okS x.Bb
 Bv : okI x.Bv
 Bt : okI x.Bt
 Bq : okT x.Bq
theorem qvD {x : qap} (h : qlr x) (w : qmE x ≤ 1048576) : qml x := ⟨(by unfold okS; simp only [qmE] at w; omega), h.2.1, h.2.2.1, trivial⟩
def qkf (a : (List qap)) : Nat := a.length + (a.map fun x => qmE x).sum
theorem quS {a : (List qap)} (h : (rngL qlr) a) (w : qkf a ≤ 1048576) : (okL qml) a :=
 ⟨by simp only [qkf] at w; omega, fun x hx => qvD (h.2 x hx) (by have := qef (wt := fun x : qap => qmE x) hx; simp only [qkf] at w; omega)⟩
def qj5 (x : qA) : Prop := rngS x.Bb ∧ rngI x.Be ∧ (rngL qlr) x.Bc ∧ (rngL qlM) x.Ar ∧ (rngL rngI) x.Br ∧ rngI x.Ca ∧ rngI x.Bu
def qgW (x : qA) : Nat := x.Bb.size + qkf x.Bc + qkm x.Ar + qcq x.Br
structure qmV (x : qA) : Prop where
 Bb : okS x.Bb
 Be : okI x.Be
 Bc : (okL qml) x.Bc
 Ar : (okL qnz) x.Ar
 Br : (okL okI) x.Br
 Ca : okI x.Ca
 Bu : okI x.Bu
theorem qua {x : qA} (h : qj5 x) (w : qgW x ≤ 1048576) : qmV x := ⟨(by unfold okS; simp only [qgW] at w; omega), h.2.1, quS (h.2.2.1) (by simp only [qgW] at w; omega), qt7 (h.2.2.2.1) (by simp only [qgW] at w; omega), qdh (h.2.2.2.2.1) (by simp only [qgW] at w; omega), h.2.2.2.2.2.1, h.2.2.2.2.2.2⟩
def qhM (a : (List qA)) : Nat := a.length + (a.map fun x => qgW x).sum
theorem qtc {a : (List qA)} (h : (rngL qj5) a) (w : qhM a ≤ 1048576) : (okL qmV) a :=
 ⟨by simp only [qhM] at w; omega, fun x hx => qua (h.2 x hx) (by have := qef (wt := fun x : qA => qgW x) hx; simp only [qhM] at w; omega)⟩
def qku (x : qp) : Prop := (rngL qj5) x.Aq
def qgy (x : qp) : Nat := qhM x.Aq
structure qho (x : qp) : Prop where
 Aq : (okL qmV) x.Aq
theorem qrW {x : qp} (h : qku x) (w : qgy x ≤ 1048576) : qho x := ⟨qtc (h) (by simp only [qgy] at w; omega)⟩
def qfr (x : qn) : Prop := rngS x.Bb ∧ rngI x.Bs ∧ (rngL rngI) x.Am
def qcs (x : qn) : Nat := x.Bb.size + qcq x.Am
structure qmA (x : qn) : Prop where
 Bb : okS x.Bb
 Bs : okI x.Bs
 Am : (okL okI) x.Am
theorem qqG {x : qn} (h : qfr x) (w : qcs x ≤ 1048576) : qmA x := ⟨(by unfold okS; simp only [qcs] at w; omega), h.2.1, qdh (h.2.2) (by simp only [qcs] at w; omega)⟩
def qde (a : (List qn)) : Nat := a.length + (a.map fun x => qcs x).sum
theorem qpU {a : (List qn)} (h : (rngL qfr) a) (w : qde a ≤ 1048576) : (okL qmA) a :=
 ⟨by simp only [qde] at w; omega, fun x hx => qqG (h.2 x hx) (by have := qef (wt := fun x : qn => qcs x) hx; simp only [qde] at w; omega)⟩
def qgG (a : (List ByteArray)) : Nat := a.length + (a.map fun x => x.size).sum
theorem qr4 {a : (List ByteArray)} (_ : (rngL rngS) a) (w : qgG a ≤ 1048576) : (okL okS) a :=
 ⟨by simp only [qgG] at w; omega, fun x hx => (by unfold okS; have := qef (wt := fun x : ByteArray => x.size) hx; simp only [qgG] at w; omega)⟩
def qjY (x : qak) : Prop := rngS x.Bb ∧ rngI x.Bv ∧ rngI x.Bx
def qj3 (x : qak) : Nat := x.Bb.size
structure qrG (x : qak) : Prop where
 Bb : okS x.Bb
 Bv : okI x.Bv
 Bx : okI x.Bx
theorem qub {x : qak} (h : qjY x) (w : qj3 x ≤ 1048576) : qrG x := ⟨(by unfold okS; simp only [qj3] at w; omega), h.2.1, h.2.2⟩
def qhU (a : (List qak)) : Nat := a.length + (a.map fun x => qj3 x).sum
theorem qs3 {a : (List qak)} (h : (rngL qjY) a) (w : qhU a ≤ 1048576) : (okL qrG) a :=
 ⟨by simp only [qhU] at w; omega, fun x hx => qub (h.2 x hx) (by have := qef (wt := fun x : qak => qj3 x) hx; simp only [qhU] at w; omega)⟩
def qlB (x : qd) : Prop := (rngL qfr) x.Aa ∧ (rngL rngS) x.Am ∧ (rngL qjY) x.Aj
def qgm (x : qd) : Nat := qde x.Aa + qgG x.Am + qhU x.Aj
structure qjL (x : qd) : Prop where
 Aa : (okL qmA) x.Aa
 Am : (okL okS) x.Am
 Aj : (okL qrG) x.Aj
theorem qsj {x : qd} (h : qlB x) (w : qgm x ≤ 1048576) : qjL x := ⟨qpU (h.1) (by simp only [qgm] at w; omega), qr4 (h.2.1) (by simp only [qgm] at w; omega), qs3 (h.2.2) (by simp only [qgm] at w; omega)⟩
def qkk (x : qP) : Prop := (rngL rngI) x.Ak ∧ (rngL rngI) x.Bw ∧ (rngL rngI) x.Bt ∧ (rngL rngI) x.Bl
def qgU (x : qP) : Nat := qcq x.Ak + qcq x.Bw + qcq x.Bt + qcq x.Bl
structure qn8 (x : qP) : Prop where
 Ak : (okL okI) x.Ak
 Bw : (okL okI) x.Bw
 Bt : (okL okI) x.Bt
 Bl : (okL okI) x.Bl
theorem quf {x : qP} (h : qkk x) (w : qgU x ≤ 1048576) : qn8 x := ⟨qdh (h.1) (by simp only [qgU] at w; omega), qdh (h.2.1) (by simp only [qgU] at w; omega), qdh (h.2.2.1) (by simp only [qgU] at w; omega), qdh (h.2.2.2) (by simp only [qgU] at w; omega)⟩
def qh4 (a : (List qP)) : Nat := a.length + (a.map fun x => qgU x).sum
theorem qs8 {a : (List qP)} (h : (rngL qkk) a) (w : qh4 a ≤ 1048576) : (okL qn8) a :=
 ⟨by simp only [qh4] at w; omega, fun x hx => quf (h.2 x hx) (by have := qef (wt := fun x : qP => qgU x) hx; simp only [qh4] at w; omega)⟩
def qmS (x : qf) : Prop := qku x.Av ∧ qlB x.Ab ∧ (rngL qkk) x.Ac
def qhS (x : qf) : Nat := qgy x.Av + qgm x.Ab + qh4 x.Ac
structure qlb (x : qf) : Prop where
 Av : qho x.Av
 Ab : qjL x.Ab
 Ac : (okL qn8) x.Ac
theorem qtJ {x : qf} (h : qmS x) (w : qhS x ≤ 1048576) : qlb x := ⟨qrW (h.1) (by simp only [qhS] at w; omega), qsj (h.2.1) (by simp only [qhS] at w; omega), qs8 (h.2.2) (by simp only [qhS] at w; omega)⟩
theorem qxy {a : qap} (_ : qmE a ≤ 1048576) : Ev (fun n => qjQ n a a) true := by
 unfold qjQ
 exact Ev.ff qh8 (Ev.ff qaX (Ev.ff qaX (Ev.ff qrw (.done))))
theorem qwP {a : (List qap)} (h : qkf a ≤ 1048576) : Ev (fun n => qkK n a a) true := by
 have hl : a.length ≤ 1048576 := by simp only [qkf] at h; omega
 unfold qkK
 exact Ev.ff (by simp) (Ev.bind (b := .nxt (a.length : Int)) (qiI (eqf := qjQ) (fun x hx => qxy (by have := qef (wt := fun x : qap => qmE x) hx; simp only [qkf] at h; omega))
  (fun n => by simp only [qge, qk (jb _), cond_false])
  (fun n j x hx => by
   have hj := (List.getElem?_eq_some_iff.1 hx).1
   simp only [qge, qj hj, cond_true, qaw hx, ja, wS j])) .done)
theorem qw3 {a : qA} (h : qgW a ≤ 1048576) : Ev (fun n => qi7 n a a) true := by
 unfold qi7
 simp only [qgW] at h
 exact Ev.ff qh8 (Ev.ff qaX (Ev.bind (qwP (a := a.Bc) (by omega)) (Ev.ff rfl (Ev.bind (qxf (a := a.Ar) (by omega)) (Ev.ff rfl (Ev.bind (qfh (a := a.Br) (by omega)) (Ev.ff rfl (Ev.ff qaX (Ev.ff qaX (.done))))))))))
theorem qvc {a : (List qA)} (h : qhM a ≤ 1048576) : Ev (fun n => qjv n a a) true := by
 have hl : a.length ≤ 1048576 := by simp only [qhM] at h; omega
 unfold qjv
 exact Ev.ff (by simp) (Ev.bind (b := .nxt (a.length : Int)) (qiI (eqf := qi7) (fun x hx => qw3 (by have := qef (wt := fun x : qA => qgW x) hx; simp only [qhM] at h; omega))
  (fun n => by simp only [qfH, qk (jb _), cond_false])
  (fun n j x hx => by
   have hj := (List.getElem?_eq_some_iff.1 hx).1
   simp only [qfH, qj hj, cond_true, qaw hx, ja, wS j])) .done)
theorem qth {a : qp} (h : qgy a ≤ 1048576) : Ev (fun n => qh9 n a a) true := by
 unfold qh9
 simp only [qgy] at h
 exact Ev.bind (qvc (a := a.Aq) (by omega)) (Ev.ff rfl (.done))
theorem qsa {a : qn} (h : qcs a ≤ 1048576) : Ev (fun n => qfB n a a) true := by
 unfold qfB
 simp only [qcs] at h
 exact Ev.ff qh8 (Ev.ff qaX (Ev.bind (qfh (a := a.Am) (by omega)) (Ev.ff rfl (.done))))
theorem qrQ {a : (List qn)} (h : qde a ≤ 1048576) : Ev (fun n => qgH n a a) true := by
 have hl : a.length ≤ 1048576 := by simp only [qde] at h; omega
 unfold qgH
 exact Ev.ff (by simp) (Ev.bind (b := .nxt (a.length : Int)) (qiI (eqf := qfB) (fun x hx => qsa (by have := qef (wt := fun x : qn => qcs x) hx; simp only [qde] at h; omega))
  (fun n => by simp only [qdA, qk (jb _), cond_false])
  (fun n j x hx => by
   have hj := (List.getElem?_eq_some_iff.1 hx).1
   simp only [qdA, qj hj, cond_true, qaw hx, ja, wS j])) .done)
theorem qtw {a : (List ByteArray)} (h : qgG a ≤ 1048576) : Ev (fun n => qhL n a a) true := by
 have hl : a.length ≤ 1048576 := by simp only [qgG] at h; omega
 unfold qhL
 exact Ev.ff (by simp) (Ev.bind (b := .nxt (a.length : Int)) (qiI (eqf := fun _ x y => some (!(x.toList != y.toList))) (fun x _ => Ev.now (by simp))
  (fun n => by simp only [qeK, qk (jb _), cond_false])
  (fun n j x hx => by
   have hj := (List.getElem?_eq_some_iff.1 hx).1
   simp only [qeK, qj hj, cond_true, qaw hx, ja, Bool.not_not, wS j])) .done)
theorem qwt {a : qak} (_ : qj3 a ≤ 1048576) : Ev (fun n => qjf n a a) true := by
 unfold qjf
 exact Ev.ff qh8 (Ev.ff qaX (Ev.ff qaX (.done)))
theorem qve {a : (List qak)} (h : qhU a ≤ 1048576) : Ev (fun n => qjA n a a) true := by
 have hl : a.length ≤ 1048576 := by simp only [qhU] at h; omega
 unfold qjA
 exact Ev.ff (by simp) (Ev.bind (b := .nxt (a.length : Int)) (qiI (eqf := qjf) (fun x hx => qwt (by have := qef (wt := fun x : qak => qj3 x) hx; simp only [qhU] at h; omega))
  (fun n => by simp only [qfK, qk (jb _), cond_false])
  (fun n j x hx => by
   have hj := (List.getElem?_eq_some_iff.1 hx).1
   simp only [qfK, qj hj, cond_true, qaw hx, ja, wS j])) .done)
theorem quP {a : qd} (h : qgm a ≤ 1048576) : Ev (fun n => qiG n a a) true := by
 unfold qiG
 simp only [qgm] at h
 exact Ev.bind (qrQ (a := a.Aa) (by omega)) (Ev.ff rfl (Ev.bind (qtw (a := a.Am) (by omega)) (Ev.ff rfl (Ev.bind (qve (a := a.Aj) (by omega)) (Ev.ff rfl (.done))))))
theorem qwY {a : qP} (h : qgU a ≤ 1048576) : Ev (fun n => qi5 n a a) true := by
 unfold qi5
 simp only [qgU] at h
 exact Ev.bind (qfh (a := a.Ak) (by omega)) (Ev.ff rfl (Ev.bind (qfh (a := a.Bw) (by omega)) (Ev.ff rfl (Ev.bind (qfh (a := a.Bt) (by omega)) (Ev.ff rfl (Ev.bind (qfh (a := a.Bl) (by omega)) (Ev.ff rfl (.done))))))))
theorem qva {a : (List qP)} (h : qh4 a ≤ 1048576) : Ev (fun n => qjx n a a) true := by
 have hl : a.length ≤ 1048576 := by simp only [qh4] at h; omega
 unfold qjx
 exact Ev.ff (by simp) (Ev.bind (b := .nxt (a.length : Int)) (qiI (eqf := qi5) (fun x hx => qwY (by have := qef (wt := fun x : qP => qgU x) hx; simp only [qh4] at h; omega))
  (fun n => by simp only [qfO, qk (jb _), cond_false])
  (fun n j x hx => by
   have hj := (List.getElem?_eq_some_iff.1 hx).1
   simp only [qfO, qj hj, cond_true, qaw hx, ja, wS j])) .done)
theorem qvX {a : qf} (h : qhS a ≤ 1048576) : Ev (fun n => qjt n a a) true := by
 unfold qjt
 simp only [qhS] at h
 exact Ev.bind (qth (a := a.Av) (by omega)) (Ev.ff rfl (Ev.bind (quP (a := a.Ab) (by omega)) (Ev.ff rfl (Ev.bind (qva (a := a.Ac) (by omega)) (Ev.ff rfl (.done))))))
theorem qfQ {a : (List Int)} {left : Int} (h : (rngL rngI) a) (h0 : 0 ≤ left) (h1 : left ≤ 1048576) : Sz (fun n => qbK n a left) (fun r => r = left - (qcq a : Int)) :=
 Sz.less h0 h1 (by omega) (by have := h.1; omega) (fun _ => rfl)
theorem qvm {a : qv} {left : Int} (h : qhA a) (h0 : 0 ≤ left) (h1 : left ≤ 1048576) : Sz (fun n => qie n a left) (fun r => r = left - (qfv a : Int)) := by
 unfold qie
 obtain ⟨h_0, h_1, h_2⟩ := h
 exact Sz.step (qfQ (a := a.Bm) h_0 (by omega) (by omega)) fun r0 p0 q0 => Sz.step (qfQ (a := a.Bj) h_1 (by omega) (by omega)) fun r1 p1 q1 => Sz.step (qfQ (a := a.Bh) h_2 (by omega) (by omega)) fun r2 p2 q2 => Sz.done p2 (by simp only [qfv]; omega)
theorem qri {a : (List qv)} {left : Int} (h : (rngL qhA) a) (h0 : 0 ≤ left) (h1 : left ≤ 1048576) : Sz (fun n => qiQ n a left) (fun r => r = left - (qfI a : Int)) :=
 Sz.list (Lf := qdY a) (wt := fun x : qv => qfv x) (el := qie) h0 h1 h.1 (fun x hx left p q => qvm (h.2 x hx) p q)
  (fun acc n => by simp only [qdY, qk (jb _), cond_false])
  (fun acc n j x hx => by
   have hj := (List.getElem?_eq_some_iff.1 hx).1
   have hl := h.1
   simp only [qdY, qj hj, cond_true, qaw hx, ja, wS j])
  (fun _ => rfl)
theorem qxN {a : qO} {left : Int} (h : qlM a) (h0 : 0 ≤ left) (h1 : left ≤ 1048576) : Sz (fun n => qjW n a left) (fun r => r = left - (qkC a : Int)) := by
 unfold qjW
 obtain ⟨h_0, h_1, h_2, h_3, h_4, h_5⟩ := h
 exact Sz.step (qri (a := a.Bp) h_4 (by omega) (by omega)) fun r0 p0 q0 => Sz.step (qri (a := a.Bd) h_5 (by omega) (by omega)) fun r1 p1 q1 => Sz.done p1 (by simp only [qkC]; omega)
theorem qwS {a : (List qO)} {left : Int} (h : (rngL qlM) a) (h0 : 0 ≤ left) (h1 : left ≤ 1048576) : Sz (fun n => qmK n a left) (fun r => r = left - (qkm a : Int)) :=
 Sz.list (Lf := qe8 a) (wt := fun x : qO => qkC x) (el := qjW) h0 h1 h.1 (fun x hx left p q => qxN (h.2 x hx) p q)
  (fun acc n => by simp only [qe8, qk (jb _), cond_false])
  (fun acc n j x hx => by
   have hj := (List.getElem?_eq_some_iff.1 hx).1
   have hl := h.1
   simp only [qe8, qj hj, cond_true, qaw hx, ja, wS j])
  (fun _ => rfl)
theorem qxS {a : qap} {left : Int} (h : qlr a) (h0 : 0 ≤ left) (h1 : left ≤ 1048576) : Sz (fun n => qke n a left) (fun r => r = left - (qmE a : Int)) := by
 unfold qke
 obtain ⟨h_0, h_1, h_2, h_3⟩ := h
 exact Sz.strStep h_0 (by omega) (by omega) fun p0 q0 => Sz.done p0 (by simp only [qmE]; omega)
theorem qwu {a : (List qap)} {left : Int} (h : (rngL qlr) a) (h0 : 0 ≤ left) (h1 : left ≤ 1048576) : Sz (fun n => qmy n a left) (fun r => r = left - (qkf a : Int)) :=
 Sz.list (Lf := qfa a) (wt := fun x : qap => qmE x) (el := qke) h0 h1 h.1 (fun x hx left p q => qxS (h.2 x hx) p q)
  (fun acc n => by simp only [qfa, qk (jb _), cond_false])
  (fun acc n j x hx => by
   have hj := (List.getElem?_eq_some_iff.1 hx).1
   have hl := h.1
   simp only [qfa, qj hj, cond_true, qaw hx, ja, wS j])
  (fun _ => rfl)
theorem qwN {a : qA} {left : Int} (h : qj5 a) (h0 : 0 ≤ left) (h1 : left ≤ 1048576) : Sz (fun n => qjd n a left) (fun r => r = left - (qgW a : Int)) := by
 unfold qjd
 obtain ⟨h_0, h_1, h_2, h_3, h_4, h_5, h_6⟩ := h
 exact Sz.strStep h_0 (by omega) (by omega) fun p0 q0 => Sz.step (qwu (a := a.Bc) h_2 (by omega) (by omega)) fun r1 p1 q1 => Sz.step (qwS (a := a.Ar) h_3 (by omega) (by omega)) fun r2 p2 q2 => Sz.step (qfQ (a := a.Br) h_4 (by omega) (by omega)) fun r3 p3 q3 => Sz.done p3 (by simp only [qgW]; omega)
theorem qvp {a : (List qA)} {left : Int} (h : (rngL qj5) a) (h0 : 0 ≤ left) (h1 : left ≤ 1048576) : Sz (fun n => qlz n a left) (fun r => r = left - (qhM a : Int)) :=
 Sz.list (Lf := qej a) (wt := fun x : qA => qgW x) (el := qjd) h0 h1 h.1 (fun x hx left p q => qwN (h.2 x hx) p q)
  (fun acc n => by simp only [qej, qk (jb _), cond_false])
  (fun acc n j x hx => by
   have hj := (List.getElem?_eq_some_iff.1 hx).1
   have hl := h.1
   simp only [qej, qj hj, cond_true, qaw hx, ja, wS j])
  (fun _ => rfl)
theorem qtP {a : qp} {left : Int} (h : qku a) (h0 : 0 ≤ left) (h1 : left ≤ 1048576) : Sz (fun n => qhX n a left) (fun r => r = left - (qgy a : Int)) := by
 unfold qhX
 have h_0 := h
 exact Sz.step (qvp (a := a.Aq) h_0 (by omega) (by omega)) fun r0 p0 q0 => Sz.done p0 (by simp only [qgy]; omega)
theorem qsr {a : qn} {left : Int} (h : qfr a) (h0 : 0 ≤ left) (h1 : left ≤ 1048576) : Sz (fun n => qfN n a left) (fun r => r = left - (qcs a : Int)) := by
 unfold qfN
 obtain ⟨h_0, h_1, h_2⟩ := h
 exact Sz.strStep h_0 (by omega) (by omega) fun p0 q0 => Sz.step (qfQ (a := a.Am) h_2 (by omega) (by omega)) fun r1 p1 q1 => Sz.done p1 (by simp only [qcs]; omega)
theorem qry {a : (List qn)} {left : Int} (h : (rngL qfr) a) (h0 : 0 ≤ left) (h1 : left ≤ 1048576) : Sz (fun n => qip n a left) (fun r => r = left - (qde a : Int)) :=
 Sz.list (Lf := qcB a) (wt := fun x : qn => qcs x) (el := qfN) h0 h1 h.1 (fun x hx left p q => qsr (h.2 x hx) p q)
  (fun acc n => by simp only [qcB, qk (jb _), cond_false])
  (fun acc n j x hx => by
   have hj := (List.getElem?_eq_some_iff.1 hx).1
   have hl := h.1
   simp only [qcB, qj hj, cond_true, qaw hx, ja, wS j])
  (fun _ => rfl)
theorem qs7 {a : (List ByteArray)} {left : Int} (h : (rngL rngS) a) (h0 : 0 ≤ left) (h1 : left ≤ 1048576) : Sz (fun n => qj0 n a left) (fun r => r = left - (qgG a : Int)) :=
 Sz.list (Lf := qdm a) (wt := fun x : ByteArray => x.size) (el := fun _ (x : ByteArray) acc => some (W64 (acc - (x.size : Int)))) h0 h1 h.1 (fun x hx left p q => Sz.str (h.2 x hx) p q)
  (fun acc n => by simp only [qdm, qk (jb _), cond_false])
  (fun acc n j x hx => by
   have hj := (List.getElem?_eq_some_iff.1 hx).1
   have hl := h.1
   simp only [qdm, qj hj, cond_true, qaw hx, ja, wS j])
  (fun _ => rfl)
theorem qw1 {a : qak} {left : Int} (h : qjY a) (h0 : 0 ≤ left) (h1 : left ≤ 1048576) : Sz (fun n => qiX n a left) (fun r => r = left - (qj3 a : Int)) := by
 unfold qiX
 obtain ⟨h_0, h_1, h_2⟩ := h
 exact Sz.strStep h_0 (by omega) (by omega) fun p0 q0 => Sz.done p0 (by simp only [qj3]; omega)
theorem qvd {a : (List qak)} {left : Int} (h : (rngL qjY) a) (h0 : 0 ≤ left) (h1 : left ≤ 1048576) : Sz (fun n => qlC n a left) (fun r => r = left - (qhU a : Int)) :=
 Sz.list (Lf := qel a) (wt := fun x : qak => qj3 x) (el := qiX) h0 h1 h.1 (fun x hx left p q => qw1 (h.2 x hx) p q)
  (fun acc n => by simp only [qel, qk (jb _), cond_false])
  (fun acc n j x hx => by
   have hj := (List.getElem?_eq_some_iff.1 hx).1
   have hl := h.1
   simp only [qel, qj hj, cond_true, qaw hx, ja, wS j])
  (fun _ => rfl)
theorem quU {a : qd} {left : Int} (h : qlB a) (h0 : 0 ≤ left) (h1 : left ≤ 1048576) : Sz (fun n => qiK n a left) (fun r => r = left - (qgm a : Int)) := by
 unfold qiK
 obtain ⟨h_0, h_1, h_2⟩ := h
 exact Sz.step (qry (a := a.Aa) h_0 (by omega) (by omega)) fun r0 p0 q0 => Sz.step (qs7 (a := a.Am) h_1 (by omega) (by omega)) fun r1 p1 q1 => Sz.step (qvd (a := a.Aj) h_2 (by omega) (by omega)) fun r2 p2 q2 => Sz.done p2 (by simp only [qgm]; omega)
theorem qxc {a : qP} {left : Int} (h : qkk a) (h0 : 0 ≤ left) (h1 : left ≤ 1048576) : Sz (fun n => qi2 n a left) (fun r => r = left - (qgU a : Int)) := by
 unfold qi2
 obtain ⟨h_0, h_1, h_2, h_3⟩ := h
 exact Sz.step (qfQ (a := a.Ak) h_0 (by omega) (by omega)) fun r0 p0 q0 => Sz.step (qfQ (a := a.Bw) h_1 (by omega) (by omega)) fun r1 p1 q1 => Sz.step (qfQ (a := a.Bt) h_2 (by omega) (by omega)) fun r2 p2 q2 => Sz.step (qfQ (a := a.Bl) h_3 (by omega) (by omega)) fun r3 p3 q3 => Sz.done p3 (by simp only [qgU]; omega)
theorem qv2 {a : (List qP)} {left : Int} (h : (rngL qkk) a) (h0 : 0 ≤ left) (h1 : left ≤ 1048576) : Sz (fun n => qlO n a left) (fun r => r = left - (qh4 a : Int)) :=
 Sz.list (Lf := qeo a) (wt := fun x : qP => qgU x) (el := qi2) h0 h1 h.1 (fun x hx left p q => qxc (h.2 x hx) p q)
  (fun acc n => by simp only [qeo, qk (jb _), cond_false])
  (fun acc n j x hx => by
   have hj := (List.getElem?_eq_some_iff.1 hx).1
   have hl := h.1
   simp only [qeo, qj hj, cond_true, qaw hx, ja, wS j])
  (fun _ => rfl)
theorem qvi {a : qf} {left : Int} (h : qmS a) (h0 : 0 ≤ left) (h1 : left ≤ 1048576) : Sz (fun n => qjr n a left) (fun r => r = left - (qhS a : Int)) := by
 unfold qjr
 obtain ⟨h_0, h_1, h_2⟩ := h
 exact Sz.step (qtP (a := a.Av) h_0 (by omega) (by omega)) fun r0 p0 q0 => Sz.step (quU (a := a.Ab) h_1 (by omega) (by omega)) fun r1 p1 q1 => Sz.step (qv2 (a := a.Ac) h_2 (by omega) (by omega)) fun r2 p2 q2 => Sz.done p2 (by simp only [qhS]; omega)
theorem qdZ {a : (List Int)} (h : qcq a ≤ 1048576) : Ev (fun n => qaN n a) a := by
 have hl : a.length ≤ 1048576 := by simp only [qcq] at h; omega
 unfold qaN
 exact Ev.bindN (qhI (by omega)) (Ev.bind (b := (a, (a.length : Int))) (qiF (cp := fun _ x => some x) (fun _ _ => .done)
  (fun acc n => by simp only [qfk, qk (jb _), cond_false])
  (fun acc n j x y hx hy => by
   have hj := (List.getElem?_eq_some_iff.1 hx).1
   simp only [qfk, qj hj, cond_true, qaw hx, qaw hy, ja, wS j])) .done)
theorem qwm {a : qv} (h : qfv a ≤ 1048576) : Ev (fun n => qhG n a) a := by
 unfold qhG
 simp only [qfv] at h
 exact Ev.bind (qdZ (a := a.Bm) (by omega)) (Ev.bind (qdZ (a := a.Bj) (by omega)) (Ev.bind (qdZ (a := a.Bh) (by omega)) (.done)))
theorem qrh {a : (List qv)} (h : qfI a ≤ 1048576) : Ev (fun n => qhc n a) a := by
 have hl : a.length ≤ 1048576 := by simp only [qfI] at h; omega
 unfold qhc
 exact Ev.bindN (qhI (by omega)) (Ev.bind (b := (a, (a.length : Int))) (qiF (cp := qhG) (fun x hx => qwm (by have := qef (wt := fun x : qv => qfv x) hx; simp only [qfI] at h; omega))
  (fun acc n => by simp only [qfi, qk (jb _), cond_false])
  (fun acc n j x y hx hy => by
   have hj := (List.getElem?_eq_some_iff.1 hx).1
   simp only [qfi, qj hj, cond_true, qaw hx, qaw hy, ja, wS j])) .done)
theorem qxW {a : qO} (h : qkC a ≤ 1048576) : Ev (fun n => qko n a) a := by
 unfold qko
 simp only [qkC] at h
 exact Ev.bind (qrh (a := a.Bp) (by omega)) (Ev.bind (qrh (a := a.Bd) (by omega)) (.done))
theorem qxj {a : (List qO)} (h : qkm a ≤ 1048576) : Ev (fun n => qkR n a) a := by
 have hl : a.length ≤ 1048576 := by simp only [qkm] at h; omega
 unfold qkR
 exact Ev.bindN (qhI (by omega)) (Ev.bind (b := (a, (a.length : Int))) (qiF (cp := qko) (fun x hx => qxW (by have := qef (wt := fun x : qO => qkC x) hx; simp only [qkm] at h; omega))
  (fun acc n => by simp only [qgj, qk (jb _), cond_false])
  (fun acc n j x y hx hy => by
   have hj := (List.getElem?_eq_some_iff.1 hx).1
   simp only [qgj, qj hj, cond_true, qaw hx, qaw hy, ja, wS j])) .done)
theorem qxY {a : qap} (_ : qmE a ≤ 1048576) : Ev (fun n => qkl n a) a := by
 unfold qkl
 exact .done
theorem qw4 {a : (List qap)} (h : qkf a ≤ 1048576) : Ev (fun n => qkS n a) a := by
 have hl : a.length ≤ 1048576 := by simp only [qkf] at h; omega
 unfold qkS
 exact Ev.bindN (qhI (by omega)) (Ev.bind (b := (a, (a.length : Int))) (qiF (cp := qkl) (fun x hx => qxY (by have := qef (wt := fun x : qap => qmE x) hx; simp only [qkf] at h; omega))
  (fun acc n => by simp only [qgf, qk (jb _), cond_false])
  (fun acc n j x y hx hy => by
   have hj := (List.getElem?_eq_some_iff.1 hx).1
   simp only [qgf, qj hj, cond_true, qaw hx, qaw hy, ja, wS j])) .done)
theorem qws {a : qA} (h : qgW a ≤ 1048576) : Ev (fun n => qi0 n a) a := by
 unfold qi0
 simp only [qgW] at h
 exact Ev.bind (qw4 (a := a.Bc) (by omega)) (Ev.bind (qxj (a := a.Ar) (by omega)) (Ev.bind (qdZ (a := a.Br) (by omega)) (.done)))
theorem qv4 {a : (List qA)} (h : qhM a ≤ 1048576) : Ev (fun n => qjz n a) a := by
 have hl : a.length ≤ 1048576 := by simp only [qhM] at h; omega
 unfold qjz
 exact Ev.bindN (qhI (by omega)) (Ev.bind (b := (a, (a.length : Int))) (qiF (cp := qi0) (fun x hx => qws (by have := qef (wt := fun x : qA => qgW x) hx; simp only [qhM] at h; omega))
  (fun acc n => by simp only [qfC, qk (jb _), cond_false])
  (fun acc n j x y hx hy => by
   have hj := (List.getElem?_eq_some_iff.1 hx).1
   simp only [qfC, qj hj, cond_true, qaw hx, qaw hy, ja, wS j])) .done)
theorem qtA {a : qp} (h : qgy a ≤ 1048576) : Ev (fun n => qhH n a) a := by
 unfold qhH
 simp only [qgy] at h
 exact Ev.bind (qv4 (a := a.Aq) (by omega)) (.done)
theorem qsg {a : qn} (h : qcs a ≤ 1048576) : Ev (fun n => qfF n a) a := by
 unfold qfF
 simp only [qcs] at h
 exact Ev.bind (qdZ (a := a.Am) (by omega)) (.done)
theorem qrF {a : (List qn)} (h : qde a ≤ 1048576) : Ev (fun n => qgz n a) a := by
 have hl : a.length ≤ 1048576 := by simp only [qde] at h; omega
 unfold qgz
 exact Ev.bindN (qhI (by omega)) (Ev.bind (b := (a, (a.length : Int))) (qiF (cp := qfF) (fun x hx => qsg (by have := qef (wt := fun x : qn => qcs x) hx; simp only [qde] at h; omega))
  (fun acc n => by simp only [qdD, qk (jb _), cond_false])
  (fun acc n j x y hx hy => by
   have hj := (List.getElem?_eq_some_iff.1 hx).1
   simp only [qdD, qj hj, cond_true, qaw hx, qaw hy, ja, wS j])) .done)
theorem qts {a : (List ByteArray)} (h : qgG a ≤ 1048576) : Ev (fun n => qh0 n a) a := by
 have hl : a.length ≤ 1048576 := by simp only [qgG] at h; omega
 unfold qh0
 exact Ev.bindN (qhI (by omega)) (Ev.bind (b := (a, (a.length : Int))) (qiF (cp := fun _ x => some x) (fun _ _ => .done)
  (fun acc n => by simp only [qeJ, qk (jb _), cond_false])
  (fun acc n j x y hx hy => by
   have hj := (List.getElem?_eq_some_iff.1 hx).1
   simp only [qeJ, qj hj, cond_true, qaw hx, qaw hy, ja, wS j])) .done)
theorem qwR {a : qak} (_ : qj3 a ≤ 1048576) : Ev (fun n => qjc n a) a := by
 unfold qjc
 exact .done
theorem qvE {a : (List qak)} (h : qhU a ≤ 1048576) : Ev (fun n => qju n a) a := by
 have hl : a.length ≤ 1048576 := by simp only [qhU] at h; omega
 unfold qju
 exact Ev.bindN (qhI (by omega)) (Ev.bind (b := (a, (a.length : Int))) (qiF (cp := qjc) (fun x hx => qwR (by have := qef (wt := fun x : qak => qj3 x) hx; simp only [qhU] at h; omega))
  (fun acc n => by simp only [qfE, qk (jb _), cond_false])
  (fun acc n j x y hx hy => by
   have hj := (List.getElem?_eq_some_iff.1 hx).1
   simp only [qfE, qj hj, cond_true, qaw hx, qaw hy, ja, wS j])) .done)
theorem qu1 {a : qd} (h : qgm a ≤ 1048576) : Ev (fun n => qiC n a) a := by
 unfold qiC
 simp only [qgm] at h
 exact Ev.bind (qrF (a := a.Aa) (by omega)) (Ev.bind (qts (a := a.Am) (by omega)) (Ev.bind (qvE (a := a.Aj) (by omega)) (.done)))
theorem qww {a : qP} (h : qgU a ≤ 1048576) : Ev (fun n => qi3 n a) a := by
 unfold qi3
 simp only [qgU] at h
 exact Ev.bind (qdZ (a := a.Ak) (by omega)) (Ev.bind (qdZ (a := a.Bw) (by omega)) (Ev.bind (qdZ (a := a.Bt) (by omega)) (Ev.bind (qdZ (a := a.Bl) (by omega)) (.done))))
theorem qvx {a : (List qP)} (h : qh4 a ≤ 1048576) : Ev (fun n => qjH n a) a := by
 have hl : a.length ≤ 1048576 := by simp only [qh4] at h; omega
 unfold qjH
 exact Ev.bindN (qhI (by omega)) (Ev.bind (b := (a, (a.length : Int))) (qiF (cp := qi3) (fun x hx => qww (by have := qef (wt := fun x : qP => qgU x) hx; simp only [qh4] at h; omega))
  (fun acc n => by simp only [qfP, qk (jb _), cond_false])
  (fun acc n j x y hx hy => by
   have hj := (List.getElem?_eq_some_iff.1 hx).1
   simp only [qfP, qj hj, cond_true, qaw hx, qaw hy, ja, wS j])) .done)
theorem qu8 {a : qf} (h : qhS a ≤ 1048576) : Ev (fun n => qjD n a) a := by
 unfold qjD
 simp only [qhS] at h
 exact Ev.bind (qtA (a := a.Av) (by omega)) (Ev.bind (qu1 (a := a.Ab) (by omega)) (Ev.bind (qvx (a := a.Ac) (by omega)) (.done)))
end Go.Fw


namespace Go.Fw
open Go
set_option maxRecDepth 100000
theorem qcA {n : Nat} {x lo hi : Int} : qaq n x lo hi = some (inI x lo hi) := by
 simp only [qaq, qmh, qoc]; rfl
theorem qcV {n : Nat} {x lo hi : Int} : qaF n x lo hi = some (inI x lo hi) := by
 simp only [qaF, qmh, qoc]; rfl
def bt (s : ByteArray) (j : Nat) : Nat := (s.data.toList.getD j 0).toNat
theorem qvy {s : ByteArray} {j : Nat} (h : j < s.size) : atS s (j : Int) = some (bt s j : Int) := by
 have h' : j < s.data.size := h
 have hl : j < s.data.toList.length := by simpa using h'
 unfold atS
 rw [if_pos (by omega), jn]
 have : s[j]? = some (s.data.toList.getD j 0) := by
  rw [getElem?_pos s j h, jz, jf hl]
  rfl
 rw [this]
 rfl
def letB (b : Nat) : Bool := decide (97 ≤ b) && decide (b ≤ 122)
def digB (b : Nat) : Bool := decide (48 ≤ b) && decide (b ≤ 57)
def chB (s : ByteArray) (j : Nat) : Bool := letB (bt s j) || digB (bt s j) && decide (0 < j)
def nameB (s : ByteArray) : Bool := (decide (1 ≤ s.size) && decide (s.size ≤ 8)) && allN (chB s) s.size
theorem qlQ {s : ByteArray} (h : okS s) : Ev (fun n => qfm n s) (nameB s) := by
 unfold okS at h
 have hL : Ev (fun n => qdw s n 0) (bif allN (chB s) s.size then .nxt (s.size : Int) else .ret false) := by
  refine qd1 ?_ (fun j hj X hX => ?_)
  ·exact Ev.succ (by simp only [qdw, qk (jb _), cond_false]; exact .done)
  ·refine Ev.succ ?_
   simp only [qdw, qj hj, cond_true, qvy hj, ja, qmh, qoc, wS j]
   have e1 : (decide ((bt s j : Int) ≥ 97) && decide ((bt s j : Int) ≤ 122)) = letB (bt s j) := by unfold letB; rw [jh]; simp; omega
   have e2 : (decide ((bt s j : Int) ≥ 48) && decide ((bt s j : Int) ≤ 57)) = digB (bt s j) := by unfold digB; rw [jh]; simp; omega
   have e3 : decide ((j : Int) > 0) = decide (0 < j) := by rw [jh]; simp
   rw [e1, e2, e3]
   unfold chB
   cases letB (bt s j) <;> cases digB (bt s j) <;> cases decide (0 < j) <;> first | exact hX | exact .done
 unfold qfm
 refine Ev.cast (r := bif allN (chB s) s.size then (decide (1 ≤ s.size) && decide (s.size ≤ 8)) else false) (Ev.bindB hL (fun _ => ?_) (fun _ => .done)) ?_
 ·simp only [qmh, qoc]
  exact Ev.now (by congr 1; rw [jh]; simp; omega)
 ·unfold nameB
  cases allN (chB s) s.size <;> simp
def cutset : List UInt8 := [97, 98, 99, 100, 101, 102, 103, 104, 105, 106, 107, 108, 109, 110, 111, 112, 113, 114, 115, 116, 117, 118, 119, 120, 121, 122, 48, 49, 50, 51, 52, 53, 54, 55, 56, 57]
theorem qqr (b : UInt8) : cutset.contains b = (letB b.toNat || digB b.toNat) := by
 have h0 : (List.range 256).all (fun m => cutset.contains (UInt8.ofNat m) == (letB (UInt8.ofNat m).toNat || digB (UInt8.ofNat m).toNat)) = true := by kernel_rfl
 have h := List.all_eq_true.1 h0 b.toNat (List.mem_range.2 b.toNat_lt)
 rw [beq_iff_eq] at h
 simpa using h
def letters : List UInt8 := [97, 98, 99, 100, 101, 102, 103, 104, 105, 106, 107, 108, 109, 110, 111, 112, 113, 114, 115, 116, 117, 118, 119, 120, 121, 122]
theorem qto (m : Nat) (hm : m < 256) : decide ((Lib.indexByte letters m.toUInt8) ≥ 0) = letB m := by
 have h0 : (List.range 256).all (fun m => decide ((Lib.indexByte letters m.toUInt8) ≥ 0) == letB m) = true := by kernel_rfl
 have h := List.all_eq_true.1 h0 m (List.mem_range.2 hm)
 rwa [beq_iff_eq] at h
theorem qqx {α : Type} {p : α → Bool} {l : List α} : l.dropWhile p = [] ↔ ∀ x, x ∈ l → p x = true := by
 induction l with
 | nil => simp
 | cons y l ih =>
  rw [List.dropWhile_cons]
  by_cases h : p y = true
  ·rw [if_pos h, ih]; simp [h]
  ·rw [if_neg h]; simp [h]
theorem qqP {α : Type} {p : α → Bool} {l : List α} (h : ∀ x, x ∈ l.dropWhile p → p x = true) : ∀ x, x ∈ l → p x = true := by
 induction l with
 | nil => simp
 | cons y l ih =>
  rw [List.dropWhile_cons] at h
  by_cases hy : p y = true
  ·rw [if_pos hy] at h
   intro x hx
   rcases List.mem_cons.1 hx with rfl | hx
   ·exact hy
   ·exact ih h x hx
  ·rw [if_neg hy] at h
   exact h
theorem qwc {l cs : List UInt8} : Lib.trimS l cs = [] ↔ ∀ x, x ∈ l → cs.contains x = true := by
 unfold Lib.trimS Lib.trimRightS Lib.trimLeftS
 rw [qqx]
 constructor
 ·intro h x hx
  exact qqP (p := (cs.contains ·)) (l := l.reverse) (fun y hy => h y (List.mem_reverse.2 hy)) x (List.mem_reverse.2 hx)
 ·intro h x hx
  exact h x (List.mem_reverse.1 ((List.dropWhile_suffix _).subset (List.mem_reverse.1 hx)))
theorem qgZ {a b : ByteArray} : (a.toList == b.toList) = decide (a = b) := by
 rw [jh, beq_iff_eq, decide_eq_true_iff]
 constructor
 ·intro h
  exact ByteArray.ext (by have := congrArg List.toArray h; simpa [ByteArray.toList_eq] using this)
 ·rintro rfl; rfl
end Go.Fw


namespace Go.Fw
open Go
set_option maxRecDepth 100000
theorem qxo {s : ByteArray} {j : Nat} (h : j < s.data.toList.length) : bt s j = (s.data.toList[j]).toNat := by
 unfold bt; rw [jz, jf h]; rfl
theorem qx7 {s : ByteArray} {j : Nat} : bt s j < 256 := UInt8.toNat_lt _
theorem qoG {n : Nat} {s : ByteArray} (h : okS s) : qhD n s = some (nameB s) := by
 unfold okS at h
 have hl : s.data.toList.length = s.size := by simp
 simp only [qhD, qcV, ja]
 cases hI : inI (s.size : Int) 1 8 with
 | false =>
  have hs : (decide (1 ≤ s.size) && decide (s.size ≤ 8)) = false := by rw [qul] at hI; rw [Bool.and_eq_false_iff, decide_eq_false_iff_not, decide_eq_false_iff_not]; omega
  simp [nameB, hs]
 | true =>
  have hs : 1 ≤ s.size ∧ s.size ≤ 8 := by rw [qa0] at hI; omega
  have hT : qik n s (⟨#[97, 98, 99, 100, 101, 102, 103, 104, 105, 106, 107, 108, 109, 110, 111, 112, 113, 114, 115, 116, 117, 118, 119, 120, 121, 122, 48, 49, 50, 51, 52, 53, 54, 55, 56, 57]⟩ : ByteArray) = some ⟨(Lib.trimS s.data.toList cutset).toArray⟩ := by
   unfold qik
   rw [if_pos ⟨by omega, by decide, by decide⟩]
   rfl
  rw [hT]
  simp only [cond_true, ja]
  have hE : (((⟨(Lib.trimS s.data.toList cutset).toArray⟩ : ByteArray).toList == (⟨#[]⟩ : ByteArray).toList)) = allN (fun j => letB (bt s j) || digB (bt s j)) s.size := by
   rw [qgZ, jh, decide_eq_true_iff, qag]
   have : ((⟨(Lib.trimS s.data.toList cutset).toArray⟩ : ByteArray) = ⟨#[]⟩) ↔ Lib.trimS s.data.toList cutset = [] := by
    constructor
    ·intro he
     have := congrArg (fun x : ByteArray => x.data.toList) he
     simpa using this
    ·intro he; rw [he]
   rw [this, qwc]
   constructor
   ·intro hx j hj
    have hj' : j < s.data.toList.length := by omega
    have := hx _ (jp hj')
    rw [qqr, ← qxo hj'] at this
    exact this
   ·intro hx x hm
    obtain ⟨j, hj, rfl⟩ := jN hm
    have := hx j (by omega)
    rw [qqr, ← qxo hj]
    exact this
  rw [hE]
  have h0 : atS s 0 = some (bt s 0 : Int) := qvy (j := 0) (by omega)
  have hI2 : decide (Lib.indexByte letters (bt s 0 : Int).toNat.toUInt8 ≥ 0) = letB (bt s 0) := by
   rw [jn]; exact qto _ qx7
  have hF : ∀ b : Bool, (bif b then (atS s 0).bind fun y1 => (qf4 n (⟨#[97, 98, 99, 100, 101, 102, 103, 104, 105, 106, 107, 108, 109, 110, 111, 112, 113, 114, 115, 116, 117, 118, 119, 120, 121, 122]⟩ : ByteArray) (⟨y1⟩ : IntK .u8)).bind fun r3 => some (decide (r3 ≥ 0)) else some false) = some (b && letB (bt s 0)) := by
   intro b
   cases b with
   | false => rfl
   | true =>
    rw [h0]
    simp only [cond_true, ja, qf4, jw]
    exact congrArg some hI2
  rw [hF]
  congr 1
  have hs' : (decide (1 ≤ s.size) && decide (s.size ≤ 8)) = true := by simp [hs]
  unfold nameB
  rw [hs', jw, jh, jc, qag, qag]
  simp only [chB, Bool.or_eq_true, jc, decide_eq_true_eq]
  constructor
  ·rintro ⟨h1, h2⟩ j hj
   rcases Nat.eq_zero_or_pos j with rfl | hp
   ·exact .inl h2
   ·exact (h1 j hj).imp id (fun h => ⟨h, hp⟩)
  ·intro h1
   refine ⟨fun j hj => (h1 j hj).imp id (fun h => h.1), ?_⟩
   rcases h1 0 (by omega) with h2 | h2
   ·exact h2
   ·omega
def strAt (xs : List ByteArray) (j : Nat) : ByteArray := xs.getD j ByteArray.empty
theorem qnJ {xs : List ByteArray} {j : Nat} (h : j < xs.length) : strAt xs j = xs[j] := by simp [strAt, h]
theorem qpG {xs : List ByteArray} {j : Nat} (h : j < xs.length) : idx xs (j : Int) = some (strAt xs j) := by rw [qhW h, qnJ h]
def neB (xs : List ByteArray) (j i : Nat) : Bool := !decide (strAt xs i = strAt xs j)
def namesB (xs : List ByteArray) : Bool := allN (fun j => nameB (strAt xs j) && allN (neB xs j) j) xs.length
theorem qmM {xs : List ByteArray} (h : okL okS xs) : Ev (fun n => qfX n xs) (namesB xs) := by
 have hl := h.len
 have hL2 : ∀ j, j < xs.length → Ev (fun n => qdP xs (j : Int) n 0) (bif allN (neB xs j) j then .nxt (j : Int) else .ret false) := by
  intro j hj
  refine qd1 ?_ (fun i hi X hX => Ev.succ ?_)
  ·exact Ev.succ (by simp only [qdP, qk (jb _), cond_false]; exact .done)
  ·simp only [qdP, qj hi, cond_true, qpG (show i < xs.length by omega), qpG hj, ja, qgZ, wS i]
   unfold neB
   cases decide (strAt xs i = strAt xs j)
   ·exact hX
   ·exact .done
 have hL1 : Ev (fun n => qdV xs n 0) (bif namesB xs then .nxt (xs.length : Int) else .ret false) := by
  refine qd1 ?_ (fun j hj X hX => Ev.succ ?_)
  ·exact Ev.succ (by simp only [qdV, qk (jb _), cond_false]; exact .done)
  ·simp only [qdV, qj hj, cond_true, qpG hj, ja, wS j]
   refine Ev.bind (qlQ (by rw [qnJ hj]; exact h.at hj)) ?_
   cases nameB (strAt xs j)
   ·exact .done
   ·refine Ev.ff rfl (Ev.bind (hL2 j hj) ?_)
    cases allN (neB xs j) j
    ·exact .done
    ·exact hX
 unfold qfX
 refine Ev.bind hL1 ?_
 cases namesB xs <;> exact .done
theorem qsu {xs : List ByteArray} {v : ByteArray} (hl : xs.length ≤ 1048576) : Ev (fun n => qeX n xs v) (ixL (fun x => decide (v = x)) xs) :=
 qfb (fin := (xs.length : Int)) (Lf := qbM xs v) (pf := fun _ x => some (decide (v = x))) (fun _ _ => .done)
  (fun n => by simp only [qbM, qk (jb _), cond_false])
  (fun n j x hx => by
   have hj := (List.getElem?_eq_some_iff.1 hx).1
   simp only [qbM, qj hj, cond_true, qaw hx, ja, qgZ, wS j])
  (fun n => by unfold qeX; congr 1; funext o; cases o <;> rfl)
theorem qp3 {xs : List ByteArray} {v : ByteArray} (hl : xs.length ≤ 1048576) : Ev (fun n => qdI n xs v) (xs.any fun x => decide (v = x)) := by
 unfold qdI
 exact Ev.bind (qsu hl) (Ev.now (by rw [qmJ]))
theorem qiT {xs : List ByteArray} (h : okL okS xs) : Ev (fun n => qdM n xs) (namesB xs) := by
 have hl := h.len
 have hL1 : Ev (fun n => qdW xs n 0) (bif namesB xs then .nxt (xs.length : Int) else .ret false) := by
  refine qd1 ?_ (fun j hj X hX => Ev.succ ?_)
  ·exact Ev.succ (by simp only [qdW, qk (jb _), cond_false]; exact .done)
  ·have hs : subS xs 0 (j : Int) = some (xs.take j) := by
    unfold subS
    rw [if_pos ⟨by omega, by omega, by omega⟩]
    simp
   simp only [qdW, qj hj, cond_true, qpG hj, ja, hs, qoG (show okS (strAt xs j) by rw [qnJ hj]; exact h.at hj), wS j]
   cases nameB (strAt xs j)
   ·exact .done
   ·refine Ev.ff rfl (Ev.bind (qp3 (by simp; omega)) ?_)
    have : ((xs.take j).any fun x => decide (strAt xs j = x)) = !allN (neB xs j) j := by
     rw [qsH (d := ByteArray.empty)]
     congr 1
     rw [jS, Nat.min_eq_left (by omega)]
     refine qhu (fun i hi => ?_)
     unfold neB strAt
     congr 1
     have : (xs.take j).getD i ByteArray.empty = xs.getD i ByteArray.empty := by simp [jz, hi]
     rw [this]
     exact decide_eq_decide.2 eq_comm
    rw [this]
    cases allN (neB xs j) j
    ·exact .done
    ·exact hX
 unfold qdM
 refine Ev.bind hL1 ?_
 cases namesB xs <;> exact .done
end Go.Fw


namespace Go.Fw
open Go
set_option maxRecDepth 100000
theorem qqQ {n : Nat} {x lo hi : Int} : qgM n x lo hi = some (!inI x lo hi) := by simp only [qgM, qcV, ja]
theorem qeG {xs : List Int} {lo hi : Int} (hl : xs.length ≤ 1048576) : Ev (fun n => qbI n xs lo hi) (xs.all fun x => inI x lo hi) := by
 have h1 : Ev (fun n => qaP n xs lo hi) (ixL (fun x => !inI x lo hi) xs) :=
  qfb (fin := (xs.length : Int)) (Lf := qab xs lo hi) (pf := fun _ x => some (!inI x lo hi)) (fun _ _ => .done)
   (fun n => by simp only [qab, qk (jb _), cond_false])
   (fun n j x hx => by
    have hj := (List.getElem?_eq_some_iff.1 hx).1
    simp only [qab, qj hj, cond_true, qaw hx, ja, qqQ, wS j])
   (fun n => by unfold qaP; congr 1; funext o; cases o <;> rfl)
 unfold qbI qbp
 refine Ev.bind (Ev.bind h1 (Ev.now rfl)) (Ev.now ?_)
 rw [qmJ, qn2]
def stepB (xs : List Int) (j : Nat) : Bool := decide (j = 0) || decide (at0 xs (j - 1) < at0 xs j)
def incB (xs : List Int) : Bool := allN (stepB xs) xs.length
theorem ql1 {xs : List Int} (hl : xs.length ≤ 1048576) : Ev (fun n => qeA n xs) (incB xs) := by
 have hL : Ev (fun n => qbm xs n 1) (bif incB xs then .nxt (max 1 xs.length : Int) else .ret false) := by
  by_cases h0 : xs.length = 0
  ·have hb : incB xs = true := by unfold incB; rw [h0]; rfl
   rw [hb]
   refine Ev.succ ?_
   have : decide ((1 : Int) < (xs.length : Int)) = false := by rw [h0]; decide
   simp only [qbm, this, cond_false]
   exact Ev.now (by rw [h0]; rfl)
  ·have := qtX (Lf := qbm xs) (len := xs.length) (i0 := 1) (f := stepB xs) (bad := false) (fin := .nxt (max 1 xs.length : Int)) (by omega)
    (Ev.succ (by
     simp only [qbm, qk (jb _), cond_false]
     exact Ev.now (by congr 2; omega)))
    (fun j h1 hj X hX => Ev.succ (by
     simp only [qbm, qj hj, cond_true, wS j, show (j : Int) - 1 = ((j - 1 : Nat) : Int) by omega, qav (show -9223372036854775808 ≤ ((j - 1 : Nat) : Int) by omega) (by omega), qaf (show j - 1 < xs.length by omega), qaf hj, ja]
     unfold stepB
     by_cases hc : at0 xs (j - 1) < at0 xs j
     ·have e1 : decide (at0 xs (j - 1) ≥ at0 xs j) = false := by simp; omega
      rw [e1]; simp only [hc, decide_true, Bool.or_true, cond_true, cond_false]; exact hX
     ·have e1 : decide (at0 xs (j - 1) ≥ at0 xs j) = true := by simp; omega
      have e2 : decide (j = 0) = false := by simp; omega
      rw [e1, e2]; simp only [hc, decide_false, Bool.or_self, cond_true, cond_false]; exact .done))
   have e : allN (fun j => stepB xs (1 + j)) (xs.length - 1) = incB xs := by
    unfold incB
    rw [jh, qag, qag]
    constructor
    ·intro h j hj
     cases j with
     | zero => rfl
     | succ j => have := h j (by omega); rwa [Nat.add_comm] at this
    ·intro h j hj
     exact h (1 + j) (by omega)
   rw [e] at this
   exact this
 unfold qeA
 refine Ev.bind hL ?_
 cases incB xs <;> exact .done
def lenB {α : Type} (xs : List α) (lo hi : Nat) : Bool := decide (lo ≤ xs.length) && decide (xs.length ≤ hi)
theorem qr3 {α : Type} {xs : List α} {lo hi : Nat} : inI (xs.length : Int) (lo : Int) (hi : Int) = lenB xs lo hi := by
 unfold inI lenB; rw [jh]; simp
def axisB (xs : List Int) : Bool := lenB xs 1 4 && ((xs.all fun x => inI x 0 100000) && incB xs)
theorem qq2 {xs : List Int} (hl : xs.length ≤ 1048576) : Ev (fun n => qiU n xs) (axisB xs) := by
 simp only [qiU, qbh, ja, qcV, show inI (xs.length : Int) 1 4 = lenB xs 1 4 from qr3 (lo := 1) (hi := 4)]
 unfold axisB
 cases lenB xs 1 4
 ·exact .done
 ·refine Ev.tt rfl (Ev.bind (qeG hl) ?_)
  cases (xs.all fun x => inI x 0 100000)
  ·exact .done
  ·exact Ev.tt rfl (Ev.bind (ql1 hl) .done)
theorem qql {xs : List Int} (hl : xs.length ≤ 1048576) : Ev (fun n => qhR n xs) (axisB xs) := by
 have hL : Ev (fun n => qdu xs n 0) (bif allN (fun j => inI (at0 xs j) 0 100000 && stepB xs j) xs.length then .nxt (xs.length : Int) else .ret false) := by
  refine qd1 ?_ (fun j hj X hX => Ev.succ ?_)
  ·exact Ev.succ (by simp only [qdu, qk (jb _), cond_false]; exact .done)
  ·simp only [qdu, qj hj, cond_true, qaf hj, ja, qcA, wS j]
   cases inI (at0 xs j) 0 100000
   ·exact .done
   ·simp only [jW, cond_false, jw]
    unfold stepB
    by_cases h0 : j = 0
    ·subst h0
     exact Ev.ff (by decide) hX
    ·simp only [show (j : Int) - 1 = ((j - 1 : Nat) : Int) by omega, qav (show -9223372036854775808 ≤ ((j - 1 : Nat) : Int) by omega) (by omega), qaf (show j - 1 < xs.length by omega), ja]
     have e2 : decide (j = 0) = false := by simp; omega
     have e3 : decide ((j : Int) > 0) = true := by simp; omega
     rw [e2, e3]
     simp only [cond_true, Bool.false_or]
     by_cases hc : at0 xs (j - 1) < at0 xs j
     ·have e1 : decide (at0 xs (j - 1) ≥ at0 xs j) = false := by simp; omega
      rw [e1]; simp only [hc, decide_true, cond_true, cond_false]; exact hX
     ·have e1 : decide (at0 xs (j - 1) ≥ at0 xs j) = true := by simp; omega
      rw [e1]; simp only [hc, decide_false, cond_true, cond_false]; exact .done
 have e : axisB xs = (allN (fun j => inI (at0 xs j) 0 100000 && stepB xs j) xs.length && lenB xs 1 4) := by
  unfold axisB incB
  rw [qlm, qgp (d := 0), Bool.and_comm]
  rfl
 rw [e]
 unfold qhR
 refine Ev.bind hL ?_
 cases allN (fun j => inI (at0 xs j) 0 100000 && stepB xs j) xs.length
 ·exact .done
 ·simp only [cond_true, qmh, qoc, jw]
  exact Ev.now (by congr 1; unfold lenB; rw [jh]; simp; omega)
def tableB (t : qv) : Bool := axisB t.Bm && (axisB t.Bj && (decide (t.Bh.length = t.Bm.length * t.Bj.length) && (t.Bh.all fun x => inI x (-1000000) 1000000)))
theorem qtT {a b : Nat} (ha : a ≤ 1048576) (hb : b ≤ 1048576) : W64 ((a : Int) * (b : Int)) = ((a * b : Nat) : Int) := by
 have h : a * b ≤ 1048576 * 1048576 := Nat.mul_le_mul ha hb
 have e : (a : Int) * (b : Int) = ((a * b : Nat) : Int) := by simp
 rw [e]
 exact qav (by omega) (by omega)
theorem qtz {t : qv} (h : qia t) : Ev (fun n => qjC n t) (tableB t) := by
 unfold qjC tableB
 refine Ev.bind (qq2 h.Bm.len) ?_
 cases axisB t.Bm
 ·exact .done
 ·refine Ev.tt rfl (Ev.bind (qq2 h.Bj.len) ?_)
  cases axisB t.Bj
  ·exact .done
  ·rw [qtT h.Bm.len h.Bj.len]
   have e : (((t.Bh.length : Nat) : Int) == ((t.Bm.length * t.Bj.length : Nat) : Int)) = decide (t.Bh.length = t.Bm.length * t.Bj.length) := by rw [jh]; simp; omega
   rw [e]
   cases decide (t.Bh.length = t.Bm.length * t.Bj.length)
   ·exact .done
   ·exact Ev.tt rfl (Ev.tt rfl (Ev.bind (qeG h.Bh.len) .done))
theorem qsl {t : qv} (h : qia t) : Ev (fun n => qjI n t) (tableB t) := by
 have hl := h.Bh.len
 have hL : Ev (fun n => qeq t n 0) (bif (t.Bh.all fun x => inI x (-1000000) 1000000) then .nxt (t.Bh.length : Int) else .ret false) :=
  qnM (fun n => by simp only [qeq, qk (jb _), cond_false]) (fun j hj X hX => by
   simp only [qeq, qj hj, cond_true, qhW hj, ja, qcA, wS j]
   cases inI t.Bh[j] (-1000000) 1000000
   ·exact .done
   ·exact hX)
 unfold qjI tableB
 refine Ev.bind (b := !(axisB t.Bm && (axisB t.Bj && decide (t.Bh.length = t.Bm.length * t.Bj.length)))) ?_ ?_
 ·refine Ev.bind (qql h.Bm.len) ?_
  cases axisB t.Bm
  ·exact .done
  ·refine Ev.ff rfl (Ev.bind (qql h.Bj.len) ?_)
   cases axisB t.Bj
   ·exact .done
   ·refine Ev.ff rfl (Ev.now ?_)
    rw [qtT h.Bm.len h.Bj.len]
    congr 1
    rw [jh]; simp; omega
 ·cases axisB t.Bm
  ·exact .done
  ·cases axisB t.Bj
   ·exact .done
   ·cases decide (t.Bh.length = t.Bm.length * t.Bj.length)
    ·exact .done
    ·refine Ev.ff rfl (Ev.bind hL ?_)
     cases (t.Bh.all fun x => inI x (-1000000) 1000000) <;> exact .done
end Go.Fw


namespace Go.Fw
open Go
set_option maxRecDepth 100000
instance : Inhabited qap := ⟨⟨ByteArray.empty, 0, 0, false⟩⟩
instance : Inhabited qv := ⟨⟨[], [], []⟩⟩
instance : Inhabited qO := ⟨⟨0, 0, 0, 0, [], []⟩⟩
instance : Inhabited qA := ⟨⟨ByteArray.empty, 0, [], [], [], 0, 0⟩⟩
instance : Inhabited qn := ⟨⟨ByteArray.empty, 0, []⟩⟩
instance : Inhabited qak := ⟨⟨ByteArray.empty, 0, 0⟩⟩
instance : Inhabited qP := ⟨⟨[], [], [], []⟩⟩
theorem lastE {j m : Nat} (h : j < m) (hm : m ≤ 1048576) : ((j : Int) == W64 ((m : Int) - 1)) = decide (j + 1 = m) := by
 rcases qw6 h with h | h
 ·exact h
 ·omega
theorem qjP {α : Type} [Inhabited α] {xs : List α} {g : α → ByteArray} {j : Nat} (h : j < xs.length) : strAt (xs.map g) j = g (gt xs j) := by
 rw [qnJ (by simpa using h), qeU h]; simp
theorem qmO {α : Type} {xs : List α} {g : α → ByteArray} {ok : α → Prop} (h : okL ok xs) (hg : ∀ x, ok x → okS (g x)) : okL okS (xs.map g) :=
 ⟨by rw [jv]; exact h.1, fun y hy => by
  obtain ⟨x, hx, rfl⟩ := List.mem_map.1 hy
  exact hg x (h.2 x hx)⟩
theorem qlh {α β : Type} {xs : List α} {g : α → β} {j : Nat} (h : j < xs.length) (hl : xs.length ≤ 1048576) {y : β} : appS ((xs.take j).map g) [y] = some ((xs.take j).map g ++ [y]) :=
 qcO (by simp; omega)
def pinB (ps : List qap) (j : Nat) : Bool :=
 bif decide (j + 1 = ps.length) then ((gt ps j).Bv == 2) && (((gt ps j).Bt == 0) && !(gt ps j).Bq) else ((gt ps j).Bv == 1) && inI (gt ps j).Bt 0 500
def pinsB (ps : List qap) : Bool := allN (pinB ps) ps.length && (lenB ps 2 5 && namesB (ps.map qap.Bb))
def clkN (ps : List qap) (j : Nat) : Nat := cntP (fun i => (gt ps i).Bq) j
theorem qtb {ps : List qap} (h : okL qml ps) : Ev (fun n => qjF n ps) (pinsB ps) := by
 have hl := h.len
 have hL : Ev (fun n => qcL ps n ([] : List ByteArray) 0) (bif allN (pinB ps) ps.length then .nxt (ps.map qap.Bb, (ps.length : Int)) else .ret false) := by
  refine loopN (Lf := qcL ps) (S := fun j => (ps.take j).map qap.Bb) (pinB ps) (fun n => ?_) (fun j hj hp X hX => ?_)
  ·simp only [qcL, qk (jb _), cond_false, jB]
  ·simp only [qcL, qj hj, cond_true, qB hj, ja, qlh hj hl, qfx (g := qap.Bb) hj, lastE hj hl, bne, qcQ, qcV, wS j]
   generalize hc : pinB ps j = c at hX ⊢
   unfold pinB at hc
   cases hd : decide (j + 1 = ps.length)
   ·rw [hd] at hc
    simp only [cond_false] at hc ⊢
    subst hc
    exact Ev.okP (fun h1 => Ev.okP1 (fun h2 => hX (by rw [h1, h2]; rfl)))
   ·rw [hd] at hc
    simp only [cond_true] at hc ⊢
    subst hc
    refine Ev.okP (fun h1 => Ev.okP (fun h2 => Ev.chkP1 (fun h3 => hX (by rw [h1, h2, h3]; rfl))))
 unfold qjF pinsB
 refine Ev.bind hL ?_
 cases allN (pinB ps) ps.length
 ·exact .done
 ·simp only [cond_true, qch, qcV, ja, show inI (ps.length : Int) 2 5 = lenB ps 2 5 from qr3 (lo := 2) (hi := 5), jw]
  exact Ev.andP (fun _ => Ev.last (qiT (qmO h (fun x hx => hx.Bb))))
def pinS (ps : List qap) (j : Nat) : Bool := allN (neB (ps.map qap.Bb) j) j && ((nameB (gt ps j).Bb && inI (gt ps j).Bt 0 500) && (bif decide (j + 1 = ps.length) then ((gt ps j).Bv == 2) && (((gt ps j).Bt == 0) && !(gt ps j).Bq) else ((gt ps j).Bv == 1)))
theorem qwO {ps : List qap} : (lenB ps 2 5 && allN (pinS ps) ps.length) = pinsB ps := by
 have e : namesB (ps.map qap.Bb) = allN (fun j => nameB (gt ps j).Bb && allN (neB (ps.map qap.Bb) j) j) ps.length := by
  unfold namesB
  rw [jv]
  exact qhu (fun j hj => by rw [qjP hj])
 unfold pinsB
 rw [e, ← Bool.and_assoc, Bool.and_comm (allN (pinB ps) ps.length), Bool.and_assoc, ← qlm]
 congr 1
 refine qhu (fun j hj => ?_)
 unfold pinS pinB
 cases hd : decide (j + 1 = ps.length)
 ·simp only [cond_false]
  cases allN (neB (ps.map qap.Bb) j) j <;> cases nameB (gt ps j).Bb <;> cases inI (gt ps j).Bt 0 500 <;> cases ((gt ps j).Bv == 1) <;> rfl
 ·simp only [cond_true]
  cases hcap : ((gt ps j).Bt == 0)
  ·simp
  ·have : inI (gt ps j).Bt 0 500 = true := by rw [beq_iff_eq] at hcap; rw [hcap]; rfl
   rw [this]
   cases allN (neB (ps.map qap.Bb) j) j <;> cases nameB (gt ps j).Bb <;> cases ((gt ps j).Bv == 2) <;> cases (gt ps j).Bq <;> rfl
theorem qtB {c : qA} (h : okL qml c.Bc) : Ev (fun n => qjs n c) (bif pinsB c.Bc then (((clkN c.Bc c.Bc.length : Nat) : Int), true) else (0, false)) := by
 have hl := h.len
 have hL2 : ∀ j, j < c.Bc.length → Ev (fun n => qek c (j : Int) (gt c.Bc j) n 0) (bif allN (neB (c.Bc.map qap.Bb) j) j then .nxt (j : Int) else .ret (0, false)) := by
  intro j hj
  refine qd1 ?_ (fun i hi X hX => Ev.succ ?_)
  ·exact Ev.succ (by simp only [qek, qk (jb _), cond_false]; exact .done)
  ·simp only [qek, qj hi, cond_true, qB (show i < c.Bc.length by omega), ja, qgZ, wS i]
   unfold neB
   rw [qjP (g := qap.Bb) (show i < c.Bc.length by omega), qjP (g := qap.Bb) hj]
   exact Ev.chkP1 (fun _ => hX)
 have hL1 : Ev (fun n => qcH c n 0 0) (bif allN (pinS c.Bc) c.Bc.length then .nxt (((clkN c.Bc c.Bc.length : Nat) : Int), (c.Bc.length : Int)) else .ret (0, false)) := by
  refine loopN (Lf := qcH c) (S := fun j => ((clkN c.Bc j : Nat) : Int)) (pinS c.Bc) (fun n => ?_) (fun j hj hp X hX => ?_)
  ·simp only [qcH, qk (jb _), cond_false]
  ·have hn : clkN c.Bc j ≤ j := qfn
   have ejl : ((j : Int) == W64 ((c.Bc.length : Int) - 1)) = decide (j + 1 = c.Bc.length) := lastE hj hl
   have elt : decide ((j : Int) < W64 ((c.Bc.length : Int) - 1)) = !decide (j + 1 = c.Bc.length) := by
    rw [qav (by omega) (by omega), jh]; simp; omega
   simp only [qcH, qj hj, cond_true, qB hj, ja, wS j, qif (show clkN c.Bc j < 9223372036854775807 by omega), ejl, elt, qcA]
   unfold pinS
   refine Ev.bind (hL2 j hj) ?_
   cases ha : allN (neB (c.Bc.map qap.Bb) j) j
   ·exact .done
   ·simp only [cond_true, jw]
    refine Ev.chkT ?_ (fun h1 => ?_)
    ·exact Ev.or (qlQ (qmw h hj).Bb) (fun _ => .done)
    ·refine Ev.chkT1 ?_ (fun h2 => ?_)
     ·cases decide (j + 1 = c.Bc.length)
      ·exact .done
      ·simp only [cond_true, jW, cond_false, bne, qcQ]
       cases ((gt c.Bc j).Bv == 2) <;> cases ((gt c.Bc j).Bt == 0) <;> cases (gt c.Bc j).Bq <;> exact .done
     ·have hX := hX (by unfold pinS; rw [ha, h1, h2]; rfl)
      have hck : clkN c.Bc (j + 1) = clkN c.Bc j + (bif (gt c.Bc j).Bq then 1 else 0) := rfl
      rw [hck] at hX
      cases hc : (gt c.Bc j).Bq
      ·rw [hc] at hX; exact Ev.ff rfl hX
      ·rw [hc] at hX; exact Ev.tt rfl hX
 rw [← qwO]
 unfold qjs
 refine Ev.guard ?_ (fun h1 => ?_)
 ·unfold lenB
  have e1 : decide ((c.Bc.length : Int) < 2) = !decide (2 ≤ c.Bc.length) := by rw [jh]; simp; omega
  have e2 : decide ((c.Bc.length : Int) > 5) = !decide (c.Bc.length ≤ 5) := by rw [jh]; simp; omega
  rw [e1, e2]
  cases decide (2 ≤ c.Bc.length) <;> cases decide (c.Bc.length ≤ 5) <;> exact .done
 ·refine Ev.bind hL1 ?_
  cases allN (pinS c.Bc) c.Bc.length <;> exact .done
def mnL (xs : List Int) : Int := (xs.drop 1).foldl (fun m y => if y < m then y else m) (at0 xs 0)
def mxL (xs : List Int) : Int := (xs.drop 1).foldl (fun m y => if y > m then y else m) (at0 xs 0)
theorem qqv {t : qv} (h : tableB t = true) : 1 ≤ t.Bh.length := by
 unfold tableB axisB lenB at h
 simp only [jc, decide_eq_true_eq] at h
 obtain ⟨⟨⟨h1, _⟩, _⟩, ⟨⟨h2, _⟩, _⟩, h3, _⟩ := h
 rw [h3]
 exact Nat.mul_pos h1 h2
theorem qxg {xs : List Int} (h1 : 1 ≤ xs.length) (hl : xs.length ≤ 1048576) : Ev (fun n => qgC n xs) (mnL xs) := by
 have hL := (qow (Lf := fun n t j => qcD xs n t j) (xs := xs) (step := fun (m y : Int) => if y < m then y else m) (fin := fun t => (t, (xs.length : Int))) 1 (at0 xs 0) (fun _ _ => True) h1 trivial (fun _ _ _ _ => trivial)
  (fun n t => by simp only [qcD, qk (jb _), cond_false])
  (fun j t hj _ X hX => by simpa only [qcD, qj hj, cond_true, qhW hj, ja, wS j] using hX)).1
 unfold qgC
 rw [show decide ((xs.length : Int) < 1) = false by simp; omega, show idx xs (0 : Int) = some (at0 xs 0) from qaf (j := 0) (by omega)]
 simp only [cond_false, ja]
 exact Ev.bind hL .done
theorem qte {t : qv} (h : qia t) : Ev (fun n => qgF n t) (bif tableB t then (⟨mnL t.Bh, mxL t.Bh⟩, 0) else (⟨0, 0⟩, 1)) := by
 unfold qgF
 refine Ev.chk1 (qsl h) (fun hb => ?_)
 have h1 := qqv hb
 have hl := h.Bh.len
 have hL := (qow (Lf := fun n (t' : Int × Int) j => qcC t n t'.1 t'.2 j) (xs := t.Bh) (step := fun (m : Int × Int) y => (if y < m.1 then y else m.1, if y > m.2 then y else m.2)) (fin := fun t' => (t'.1, t'.2, (t.Bh.length : Int))) 1 (at0 t.Bh 0, at0 t.Bh 0) (fun _ _ => True) h1 trivial (fun _ _ _ _ => trivial)
  (fun n t => by simp only [qcC, qk (jb _), cond_false])
  (fun j t hj _ X hX => by simpa only [qcC, qj hj, cond_true, qhW hj, ja, wS j] using hX)).1
 have hf : ∀ (ys : List Int) (a b : Int), ys.foldl (fun (m : Int × Int) y => (if y < m.1 then y else m.1, if y > m.2 then y else m.2)) (a, b) = (ys.foldl (fun m y => if y < m then y else m) a, ys.foldl (fun m y => if y > m then y else m) b) := by
  intro ys
  induction ys with
  | nil => intro a b; rfl
  | cons y ys ih => intro a b; simp only [List.foldl_cons, ih]
 rw [hf] at hL
 rw [show idx t.Bh (0 : Int) = some (at0 t.Bh 0) from qaf (j := 0) (by omega)]
 simp only [ja]
 exact Ev.bind hL .done
def tabB (pos : Bool) (t : qv) : Bool := tableB t && (!pos || decide (0 ≤ mnL t.Bh))
def tablesB (ts : List qv) (pos : Bool) : Bool := decide (ts.length = 2) && ts.all (tabB pos)
theorem qlL {ts : List qv} {pos : Bool} (h : okL qia ts) : Ev (fun n => qe5 n ts pos) (tablesB ts pos) := by
 have hl := h.len
 have h1 : Ev (fun n => qaz n ts pos) (ixL (fun x => !tabB pos x) ts) :=
  qfb (fin := (ts.length : Int)) (Lf := qK ts pos) (pf := fun n x => qgB n x pos) (fun x hx => by
    unfold qgB tabB
    refine Ev.or (qtz (h.2 x hx)) (fun hb => ?_)
    cases pos
    ·exact .done
    ·refine Ev.tt rfl (Ev.bind (qxg (qqv hb) (h.2 x hx).Bh.len) (Ev.now ?_))
     congr 1
     rw [jh]; simp)
   (fun n => by simp only [qK, qk (jb _), cond_false])
   (fun n j x hx => by
    have hj := (List.getElem?_eq_some_iff.1 hx).1
    simp only [qK, qj hj, cond_true, qaw hx, ja, wS j])
   (fun n => by unfold qaz; congr 1; funext o; cases o <;> rfl)
 unfold qe5 qaT tablesB
 rw [show ((ts.length : Int) == 2) = decide (ts.length = 2) by rw [jh]; simp; omega]
 refine Ev.andP (fun _ => Ev.bind (Ev.bind h1 (Ev.now rfl)) (Ev.now ?_))
 rw [qmJ, qn2]
theorem qhE {ts : List qv} {pos : Bool} (h : okL qia ts) : Ev (fun n => qc8 n ts pos) (tablesB ts pos) := by
 unfold qc8 tablesB
 rw [show ((ts.length : Int) != 2) = !decide (ts.length = 2) by rw [jh]; simp; omega]
 simp only [qcQ]
 refine Ev.andP (fun h2 => ?_)
 have h2 : ts.length = 2 := by simpa using h2
 have hL : Ev (fun n => qcw ts pos n 0) (bif allN (fun j => tabB pos (gt ts j)) ts.length then .nxt (2 : Int) else .ret false) := by
  refine qd1 (len := ts.length) ?_ (fun j hj X hX => Ev.succ ?_)
  ·rw [h2]; exact Ev.succ (by simp only [qcw]; exact .done)
  ·simp only [qcw, show decide ((j : Int) < 2) = true by simp; omega, cond_true, qB hj, ja, wS j]
   refine Ev.bind (qte (qmw h hj)) ?_
   unfold tabB
   cases tableB (gt ts j)
   ·exact .done
   ·simp only [cond_true, jw]
    refine Ev.ff rfl ?_
    cases pos
    ·exact hX
    ·refine Ev.tt rfl ?_
     rw [show decide (mnL (gt ts j).Bh < 0) = !decide (0 ≤ mnL (gt ts j).Bh) by rw [jh]; simp]
     simp only [qcQ]
     exact Ev.okP1 (fun _ => hX)
 rw [qhQ]
 refine Ev.bind hL ?_
 cases allN (fun j => tabB pos (gt ts j)) ts.length <;> exact .done
end Go.Fw


namespace Go.Fw
open Go
set_option maxRecDepth 100000
theorem qdd {α : Type} [Inhabited α] {xs : List α} {x : Int} (h0 : 0 ≤ x) (h1 : x < xs.length) : idx xs x = some (gt xs x.toNat) := by
  have := qB (xs := xs) (j := x.toNat) (by omega)
  rwa [← qfZ h0] at this
theorem qq1 {q : Nat → Bool} {m n : Nat} (h : m ≤ n) : cntP q m ≤ cntP q n := by
  induction n with
  | zero =>
    obtain rfl : m = 0 := by omega
    exact jb _
  | succ n ih =>
    rcases Nat.lt_or_eq_of_le h with h | rfl
    · exact Nat.le_trans (ih (by omega)) (Nat.le_add_right _ _)
    · exact jb _
theorem qmR {m k : Nat} : decide ((m : Int) ≤ (k : Int)) = decide (m ≤ k) := by rw [jh]; simp
theorem qsb {q : Nat → Bool} {n i j : Nat} (hi : i < j) (hj : j < n) (h1 : q i = true) (h2 : q j = true) : 2 ≤ cntP q n := by
  have e1 : cntP q (i + 1) = cntP q i + 1 := by rw [cntP, h1]; rfl
  have e2 : cntP q (j + 1) = cntP q j + 1 := by rw [cntP, h2]; rfl
  have m1 := qq1 (q := q) (show i + 1 ≤ j by omega)
  have m2 := qq1 (q := q) (show j + 1 ≤ n by omega)
  omega
theorem qsP {q : Nat → Bool} {n i j : Nat} (hn : cntP q n ≤ 1) (hi : i < n) (hj : j < n) (h1 : q i = true) (h2 : q j = true) : i = j := by
  rcases Nat.lt_trichotomy i j with h | h | h
  · have := qsb h hj h1 h2; omega
  · exact h
  · have := qsb h hi h2 h1; omega
def clkIx (ps : List qap) : Int := ixL (fun p => p.Bq) ps
def clkAt (ps : List qap) (x : Int) : Bool := (gt ps x.toNat).Bq
theorem qwd {c : qA} (hl : c.Bc.length ≤ 1048576) : Ev (fun n => qhm n c) (clkIx c.Bc) := by
  unfold qhm
  refine Ev.bind (b := clkIx c.Bc) ?_ .done
  exact qfb (fin := (c.Bc.length : Int)) (Lf := qQ c.Bc) (pf := fun n x => qhZ n x) (fun _ _ => .done)
    (fun n => by simp only [qQ, qk (jb _), cond_false])
    (fun n j x hx => by
      have hj := (List.getElem?_eq_some_iff.1 hx).1
      simp only [qQ, qj hj, cond_true, qaw hx, ja, wS j])
    (fun n => by unfold qbk; congr 1; funext o; cases o <;> rfl)
def arcI (ps : List qap) (a : qO) : Bool :=
  bif (a.Be == 4) || (a.Be == 5) then
    (a.Bn == 0) && (((a.Bd.length : Int) == 0) && (tablesB a.Bp false && ((a.Bk == clkIx ps) && (decide (a.Bk ≥ 0) && (inI a.To 0 (ps.length - 2) && !(a.To == a.Bk))))))
  else
    (tablesB a.Bp true && (tablesB a.Bd true && ((a.To == (ps.length : Int) - 1) && inI a.Bk 0 (ps.length - 2)))) &&
      (bif a.Be == 1 then !clkAt ps a.Bk && inI a.Bn 1 3 else (bif (a.Be == 2) || (a.Be == 3) then clkAt ps a.Bk && (a.Bn == 0) else false))
def arcS (ps : List qap) (a : qO) : Bool :=
  (inI a.Bk 0 (ps.length - 2) && inI a.To 0 (ps.length - 1)) &&
    (bif a.Be == 1 then !clkAt ps a.Bk && ((a.To == (ps.length : Int) - 1) && (inI a.Bn 1 3 && (tablesB a.Bp true && tablesB a.Bd true)))
     else (bif (a.Be == 2) || (a.Be == 3) then clkAt ps a.Bk && ((a.To == (ps.length : Int) - 1) && ((a.Bn == 0) && (tablesB a.Bp true && tablesB a.Bd true)))
     else (bif (a.Be == 4) || (a.Be == 5) then clkAt ps a.Bk && (decide (a.To < (ps.length : Int) - 1) && (!clkAt ps a.To && ((a.Bn == 0) && (tablesB a.Bp false && ((a.Bd.length : Int) == 0))))) else false)))
theorem qoT {c d : Bool} : (bif c then some c else some d) = some (c || d) := by cases c <;> rfl
theorem qsO {c d : Bool} : (bif c then some true else some d) = some (c || d) := by cases c <;> rfl
theorem qtO {n : Nat} {k : Int} : qjy n k = some ((k == 4) || (k == 5)) := by simp only [qjy, qsO]
theorem qvu {c : qA} {a : qO} (h : okL qml c.Bc) (ha : qnz a) (hm : 2 ≤ c.Bc.length) : Ev (fun n => qhi n c a) (arcI c.Bc a) := by
  have hl := h.len
  have e1 : W64 ((c.Bc.length : Int) - 1) = (c.Bc.length : Int) - 1 := qev (by omega)
  have e2 : W64 ((c.Bc.length : Int) - 1 - 1) = (c.Bc.length : Int) - 2 := by rw [qav (by omega) (by omega)]; omega
  simp only [qhi, qtO, ja, qf3, qdQ, qch, e1, e2, qcV, qoT, bne]
  unfold arcI
  refine Ev.iff (fun _ => Ev.last ?_) (fun _ => Ev.guardB ?_ (fun hb => ?_))
  · exact Ev.andP fun _ => Ev.andP fun _ => Ev.and (qlL ha.Bp) fun _ => Ev.bind (qwd hl) (Ev.andP fun _ => Ev.andP fun _ => Ev.andP fun _ => .done)
  · refine Ev.or (qlL ha.Bp) fun _ => Ev.or (qlL ha.Bd) fun _ => ?_
    simp only [qcQ]
    exact Ev.orBP fun _ => .done
  · have hf : 0 ≤ a.Bk ∧ a.Bk ≤ (c.Bc.length : Int) - 2 := by
      simp only [jc, qa0] at hb
      exact hb.2.2.2
    simp only [qdd hf.1 (show a.Bk < (c.Bc.length : Int) by omega), ja]
    exact Ev.iff (fun _ => Ev.andP fun _ => .done) (fun _ => Ev.iff (fun _ => Ev.andP fun _ => .done) (fun _ => .done))
theorem qu0 {c : qA} {a : qO} (h : okL qml c.Bc) (ha : qnz a) (hm : 2 ≤ c.Bc.length) : Ev (fun n => qkv n c a) (arcS c.Bc a) := by
  have hl := h.len
  have e1 : W64 ((c.Bc.length : Int) - 1) = (c.Bc.length : Int) - 1 := qev (by omega)
  have e2 : W64 ((c.Bc.length : Int) - 1 - 1) = (c.Bc.length : Int) - 2 := by rw [qav (by omega) (by omega)]; omega
  simp only [qkv, ja, e1, e2, qcA, qoT]
  unfold arcS
  refine Ev.guardB ?_ (fun hb => ?_)
  · simp only [qcQ]
    exact Ev.orBP fun _ => .done
  · have hf : (0 ≤ a.Bk ∧ a.Bk ≤ (c.Bc.length : Int) - 2) ∧ (0 ≤ a.To ∧ a.To ≤ (c.Bc.length : Int) - 1) := by
      simp only [jc, qa0] at hb
      exact hb
    simp only [qdd hf.1.1 (show a.Bk < (c.Bc.length : Int) by omega), qdd hf.2.1 (show a.To < (c.Bc.length : Int) by omega), ja]
    refine Ev.iff (fun _ => ?_) (fun _ => Ev.iff (fun _ => ?_) (fun _ => Ev.iff (fun _ => ?_) (fun _ => .done)))
    · exact Ev.andP fun _ => Ev.andP fun _ => Ev.andP fun _ => Ev.and (qhE ha.Bp) fun _ => Ev.last (qhE ha.Bd)
    · exact Ev.andP fun _ => Ev.andP fun _ => Ev.andP fun _ => Ev.and (qhE ha.Bp) fun _ => Ev.last (qhE ha.Bd)
    · exact Ev.andP fun _ => Ev.andP fun _ => Ev.andP fun _ => Ev.andP fun _ => Ev.and (qhE ha.Bp) fun _ => .done
theorem qot {ps : List qap} (h1 : clkN ps ps.length ≤ 1) {x : Int} (hx : 0 ≤ x) : clkIx ps = x ↔ x < ps.length ∧ clkAt ps x = true := by
  unfold clkIx ixL
  cases hf : ps.findIdx? (fun p => p.Bq) with
  | some j =>
    obtain ⟨hj, hp, _⟩ := List.findIdx?_eq_some_iff_getElem.1 hf
    have hpj : (gt ps j).Bq = true := by rw [qeU hj]; exact hp
    constructor
    · intro e
      have e : (j : Int) = x := e
      subst e
      exact ⟨by omega, by unfold clkAt; rw [jn]; exact hpj⟩
    · rintro ⟨hl, hc⟩
      have := qsP h1 hj (show x.toNat < ps.length by omega) hpj hc
      show (j : Int) = x
      omega
  | none =>
    have hn := List.findIdx?_eq_none_iff.1 hf
    constructor
    · intro e
      have e : (-1 : Int) = x := e
      omega
    · rintro ⟨hl, hc⟩
      have hxl : x.toNat < ps.length := by omega
      unfold clkAt at hc
      rw [qeU hxl] at hc
      have := hn _ (jp hxl)
      rw [hc] at this
      exact absurd this (by decide)
theorem qgr {ps : List qap} (h : pinsB ps = true) : (2 ≤ ps.length ∧ ps.length ≤ 5) ∧ clkAt ps ((ps.length : Int) - 1) = false := by
  unfold pinsB lenB at h
  simp only [jc, decide_eq_true_eq] at h
  refine ⟨h.2.1, ?_⟩
  have h1 := qag.1 h.1 (ps.length - 1) (by omega)
  unfold pinB at h1
  rw [show decide (ps.length - 1 + 1 = ps.length) = true by simp; omega] at h1
  simp only [cond_true, jc, jD] at h1
  unfold clkAt
  rw [show ((ps.length : Int) - 1).toNat = ps.length - 1 by omega]
  exact h1.2.2
theorem qvQ {ps : List qap} {a : qO} (h : pinsB ps = true) (h1 : clkN ps ps.length ≤ 1) : arcI ps a = arcS ps a := by
  obtain ⟨⟨hm, hm5⟩, hlast⟩ := qgr h
  rw [jh]
  unfold arcI arcS
  cases h45 : ((a.Be == 4) || (a.Be == 5)) with
  | true =>
    have k1 : (a.Be == 1) = false := by simp at h45 ⊢; omega
    have k23 : ((a.Be == 2) || (a.Be == 3)) = false := by simp at h45 ⊢; omega
    rw [k1, k23]
    simp only [cond_true, cond_false, jc, qa0, decide_eq_true_eq, beq_iff_eq, jD, beq_eq_false_iff_ne, ne_eq]
    constructor
    · rintro ⟨hs, hsl, hd, hf, hf0, ht, hne⟩
      obtain ⟨hl, hc⟩ := (qot h1 hf0).1 hf.symm
      have hfl : a.Bk ≠ (ps.length : Int) - 1 := by intro e; rw [e, hlast] at hc; cases hc
      refine ⟨⟨⟨hf0, by omega⟩, ⟨ht.1, by omega⟩⟩, hc, by omega, ?_, hs, hd, hsl⟩
      cases hct : clkAt ps a.To with
      | false => rfl
      | true =>
        have := (qot h1 ht.1).2 ⟨by omega, hct⟩
        omega
    · rintro ⟨⟨hf, ht⟩, hc, hlt, hct, hs, hd, hsl⟩
      have := (qot h1 hf.1).2 ⟨by omega, hc⟩
      refine ⟨hs, hsl, hd, this.symm, hf.1, ⟨ht.1, by omega⟩, ?_⟩
      intro e
      rw [e, hc] at hct
      cases hct
  | false =>
    simp only [cond_false, jc, qa0, beq_iff_eq]
    cases (a.Be == 1)
    · cases ((a.Be == 2) || (a.Be == 3))
      · simp
      · simp only [cond_true, cond_false, jc, beq_iff_eq]
        constructor
        · rintro ⟨⟨h1, h2, h3, h4⟩, h5, h6⟩
          exact ⟨⟨h4, by omega⟩, h5, h3, h6, h1, h2⟩
        · rintro ⟨⟨h4, h7⟩, h5, h3, h6, h1, h2⟩
          exact ⟨⟨h1, h2, h3, h4⟩, h5, h6⟩
    · simp only [cond_true, jc, qa0, jD, beq_iff_eq]
      constructor
      · rintro ⟨⟨h1, h2, h3, h4⟩, h5, h6⟩
        exact ⟨⟨h4, by omega⟩, h5, h3, h6, h1, h2⟩
      · rintro ⟨⟨h4, h7⟩, h5, h3, h6, h1, h2⟩
        exact ⟨⟨h1, h2, h3, h4⟩, h5, h6⟩
theorem qq5 {ps : List qap} {a : qO} (h : arcS ps a = true) : 1 ≤ a.Be ∧ a.Be ≤ 5 := by
  unfold arcS at h
  rw [jc] at h
  have h := h.2
  cases h1 : (a.Be == 1)
  · cases h2 : ((a.Be == 2) || (a.Be == 3))
    · cases h4 : ((a.Be == 4) || (a.Be == 5))
      · rw [h1, h2, h4] at h; cases h
      · simp at h4; omega
    · simp at h2; omega
  · simp at h1; omega
def sameArc (x y : qO) : Bool := (x.Be == y.Be) && ((x.Bk == y.Bk) && (x.To == y.To))
def newArc (ar : List qO) (j : Nat) : Bool := allN (fun i => !sameArc (gt ar i) (gt ar j)) j
theorem qtl {c : qA} (h : okL qml c.Bc) (ha : okL qnz c.Ar) (hm : 2 ≤ c.Bc.length) : Ev (fun n => qf8 n c) (allN (fun j => arcI c.Bc (gt c.Ar j) && newArc c.Ar j) c.Ar.length && decide (c.Ar.length ≤ 8)) := by
  have hl := ha.len
  have h1 : ∀ (ar : List qO) (y : qO), ar.length ≤ 1048576 → Ev (fun n => qas n ar y) (ar.any fun x => sameArc x y) := by
    intro ar y hl
    unfold qas
    refine Ev.bind (b := ixL (fun x => sameArc x y) ar) (qfb (fin := (ar.length : Int)) (Lf := qI ar y) (pf := fun n x => qeZ n x y) (fun x _ => ?_)
      (fun n => by simp only [qI, qk (jb _), cond_false])
      (fun n j x hx => by
        have hj := (List.getElem?_eq_some_iff.1 hx).1
        simp only [qI, qj hj, cond_true, qaw hx, ja, wS j])
      (fun n => by unfold qaY; congr 1; funext o; cases o <;> rfl)) (Ev.now (by rw [qmJ]))
    unfold qeZ sameArc
    exact Ev.andP fun _ => Ev.andP fun _ => .done
  have hL : Ev (fun n => qcg c n 0) (bif allN (fun j => arcI c.Bc (gt c.Ar j) && newArc c.Ar j) c.Ar.length then .nxt (c.Ar.length : Int) else .ret false) := by
    refine qd1 ?_ (fun j hj X hX => Ev.succ ?_)
    · exact Ev.succ (by simp only [qcg, qk (jb _), cond_false]; exact .done)
    · simp only [qcg, qj hj, cond_true, qB hj, ja, que (Nat.le_of_lt hj), wS j]
      refine Ev.chk (qvu h (qmw ha hj) hm) fun _ => Ev.chkT1 ?_ (fun _ => hX)
      refine (h1 _ _ (by simp; omega)).cast ?_
      rw [qvk (Nat.le_of_lt hj)]; rfl
  unfold qf8
  refine Ev.bind hL ?_
  cases allN (fun j => arcI c.Bc (gt c.Ar j) && newArc c.Ar j) c.Ar.length
  · exact .done
  · refine Ev.now ?_
    show some (decide ((c.Ar.length : Int) ≤ ((8 : Nat) : Int))) = some (true && decide (c.Ar.length ≤ 8))
    rw [qmR, jw]
def hasB (ar : List qO) (k : Int) : Bool := ar.any fun a => a.Be == k
theorem qoK {c : qA} {k : Int} (hl : c.Ar.length ≤ 1048576) : Ev (fun n => qc6 n c k) (hasB c.Ar k) := by
  unfold qc6 qba
  exact Ev.last (Ev.bind (b := ixL (fun x => x.Be == k) c.Ar) (qfb (fin := (c.Ar.length : Int)) (Lf := qY c.Ar k) (pf := fun n x => qjj n x k) (fun x _ => .done)
      (fun n => by simp only [qY, qk (jb _), cond_false])
      (fun n j x hx => by
        have hj := (List.getElem?_eq_some_iff.1 hx).1
        simp only [qY, qj hj, cond_true, qaw hx, ja, wS j])
      (fun n => by unfold qbq; congr 1; funext o; cases o <;> rfl)) (Ev.now (by rw [qmJ]; rfl)))
def kindN (ar : List qO) (k : Nat) (j : Nat) : Nat := cntP (fun i => (gt ar i).Be == (k : Int)) j
theorem qqZ {ar : List qO} {k : Nat} : decide (((kindN ar k ar.length : Nat) : Int) > 0) = hasB ar k := by
  rw [show decide (((kindN ar k ar.length : Nat) : Int) > 0) = decide (0 < kindN ar k ar.length) by simp]
  unfold kindN hasB
  rw [qsi, qtf]
theorem qta {ar : List qO} {k : Nat} : (((kindN ar k ar.length : Nat) : Int) == 0) = !hasB ar k := by
  rw [← qqZ, jh]; simp
theorem qsA {c : qA} (ha : okL qnz c.Ar) (hk : ∀ j, j < c.Ar.length → 1 ≤ (gt c.Ar j).Be ∧ (gt c.Ar j).Be ≤ 5) : Ev (fun n => qiN n c) (vecC (fun k => kindN c.Ar k c.Ar.length) 6) := by
  have hl := ha.len
  have hL : Ev (fun n => qcX c n (vecC (fun _ => 0) 6) 0) (vecC (fun k => kindN c.Ar k c.Ar.length) 6, (c.Ar.length : Int)) := by
    refine loopF (Lf := qcX c) (S := fun j => vecC (fun k => kindN c.Ar k j) 6) (len := c.Ar.length) (fun n => ?_) (fun j hj X hX => ?_)
    · simp only [qcX, qk (jb _), cond_false]
    · obtain ⟨k1, k5⟩ := hk j hj
      have ek : (gt c.Ar j).Be = (((gt c.Ar j).Be.toNat : Nat) : Int) := qfZ (by omega)
      have hc : kindN c.Ar (gt c.Ar j).Be.toNat j ≤ j := qfn
      simp only [qcX, qj hj, cond_true, qB hj, ja, wS j]
      rw [ek, qj9 (show (gt c.Ar j).Be.toNat < 6 by omega)]
      simp only [ja]
      rw [qrj (c := fun k => kindN c.Ar k j) (by show kindN c.Ar _ j < _; omega)]
      have : vecC (fun i => kindN c.Ar i j + (bif decide ((gt c.Ar j).Be.toNat = i) then 1 else 0)) 6 = vecC (fun k => kindN c.Ar k (j + 1)) 6 := by
        refine qj6 (fun k _ => ?_)
        show _ = kindN c.Ar k j + (bif (gt c.Ar j).Be == (k : Int) then 1 else 0)
        congr 2
        rw [jh]; simp; omega
      rw [this]
      exact hX
  unfold qiN
  rw [show mkS 6 (0 : Int) = some (vecC (fun _ => 0) 6) from qmY (m := 6) (by omega)]
  simp only [ja]
  exact Ev.bind hL .done
def kindB (c : qA) : Bool :=
  bif c.Be == 1 then (((clkN c.Bc c.Bc.length : Nat) : Int) == 0) && (((c.Br.length : Int) == ((2 ^ (c.Bc.length - 1) : Nat) : Int)) && (c.Br.all fun x => inI x 0 1))
  else bif c.Be == 2 then (((clkN c.Bc c.Bc.length : Nat) : Int) == 1) && (((c.Br.length : Int) == 0) && (!hasB c.Ar 1 && !(hasB c.Ar 2 == hasB c.Ar 3)))
  else bif c.Be == 3 then (((clkN c.Bc c.Bc.length : Nat) : Int) == 1) && (((c.Br.length : Int) == 0) && (hasB c.Ar 1 && (hasB c.Ar 2 && !hasB c.Ar 3)))
  else false
theorem qq0 {c : qA} (h : kindB c = true) : clkN c.Bc c.Bc.length ≤ 1 := by
  unfold kindB at h
  cases h1 : (c.Be == 1)
  · cases h2 : (c.Be == 2)
    · cases h3 : (c.Be == 3)
      · rw [h1, h2, h3] at h; cases h
      · rw [h1, h2, h3] at h
        simp only [cond_true, cond_false, jc, beq_iff_eq] at h
        omega
    · rw [h1, h2] at h
      simp only [cond_true, cond_false, jc, beq_iff_eq] at h
      omega
  · rw [h1] at h
    simp only [cond_true, jc, beq_iff_eq] at h
    omega
theorem qsG {m : Nat} (h1 : 2 ≤ m) (h2 : m ≤ 5) : shlS 1 (W64 ((m : Int) - 1)) = some ((2 ^ (m - 1) : Nat) : Int) ∧ shlS 1 (IntKind.wrap .u64 (W64 ((m : Int) - 1))) = some ((2 ^ (m - 1) : Nat) : Int) := by
  have : m = 2 ∨ m = 3 ∨ m = 4 ∨ m = 5 := by omega
  rcases this with rfl | rfl | rfl | rfl <;> exact ⟨by decide, by decide⟩
theorem qsv {c : qA} (hc : qmV c) (hm : 2 ≤ c.Bc.length) (hm5 : c.Bc.length ≤ 5) : Ev (fun n => qft n c) (kindB c) := by
  have hl := hc.Bc.len
  have hL : Ev (fun n => qaZ c n 0 0) (((clkN c.Bc c.Bc.length : Nat) : Int), (c.Bc.length : Int)) := by
    refine loopF (Lf := qaZ c) (S := fun j => ((clkN c.Bc j : Nat) : Int)) (len := c.Bc.length) (fun n => ?_) (fun j hj X hX => ?_)
    · simp only [qaZ, qk (jb _), cond_false]
    · have hn : clkN c.Bc j ≤ j := qfn
      simp only [qaZ, qj hj, cond_true, qB hj, ja, wS j, qif (show clkN c.Bc j < 9223372036854775807 by omega)]
      have hck : clkN c.Bc (j + 1) = clkN c.Bc j + (bif (gt c.Bc j).Bq then 1 else 0) := rfl
      rw [hck] at hX
      cases hc : (gt c.Bc j).Bq
      · rw [hc] at hX; exact Ev.ff rfl hX
      · rw [hc] at hX; exact Ev.tt rfl hX
  unfold qft kindB
  refine Ev.bind hL ?_
  simp only [qdQ, qch, ja, (qsG hm hm5).1]
  have hal := hc.Ar.len
  refine Ev.iff (fun _ => ?_) (fun _ => Ev.iff (fun _ => ?_) (fun _ => Ev.iff (fun _ => ?_) (fun _ => .done)))
  · exact Ev.andP fun _ => Ev.andP fun _ => Ev.last (qeG hc.Br.len)
  · exact Ev.andP fun _ => Ev.andP fun _ => Ev.bind (qoK hal) (Ev.andP fun _ => Ev.bind (qoK hal) (Ev.bind (qoK hal) .done))
  · exact Ev.andP fun _ => Ev.andP fun _ => Ev.and (qoK hal) fun _ => Ev.and (qoK hal) fun _ => Ev.bind (qoK hal) .done
def cellB (c : qA) : Bool :=
  nameB c.Bb && (pinsB c.Bc && ((allN (fun j => arcI c.Bc (gt c.Ar j) && newArc c.Ar j) c.Ar.length && decide (c.Ar.length ≤ 8)) && (inI c.Ca 0 100000 && (inI c.Bu 0 100000 && kindB c))))
theorem quE {c : qA} (hc : qmV c) : Ev (fun n => qkL n c) (cellB c) := by
  simp only [qkL, qoG hc.Bb, qcV, ja]
  unfold cellB
  refine Ev.andP fun _ => Ev.and (qtb hc.Bc) fun hp => ?_
  obtain ⟨⟨hm, hm5⟩, _⟩ := qgr hp
  exact Ev.and (qtl hc.Bc hc.Ar hm) fun _ => Ev.andP fun _ => Ev.andP fun _ => Ev.last (qsv hc hm hm5)
theorem qtR {c : qA} (hc : qmV c) : Ev (fun n => qkH n c) (cellB c) := by
  have hal := hc.Ar.len
  have htl := hc.Br.len
  have e : cellB c = ((pinsB c.Bc && (nameB c.Bb && (decide (c.Ar.length ≤ 8) && (inI c.Ca 0 100000 && inI c.Bu 0 100000)))) && (allN (fun j => arcS c.Bc (gt c.Ar j) && newArc c.Ar j) c.Ar.length && kindB c)) := by
    unfold cellB
    cases hk : kindB c
    · simp
    · cases hp : pinsB c.Bc
      · simp
      · rw [qhu (fun j _ => by rw [qvQ hp (qq0 hk)])]
        cases nameB c.Bb <;> cases allN (fun j => arcS c.Bc (gt c.Ar j) && newArc c.Ar j) c.Ar.length <;> cases decide (c.Ar.length ≤ 8) <;> cases inI c.Ca 0 100000 <;> cases inI c.Bu 0 100000 <;> rfl
  rw [e]
  unfold qkH
  refine Ev.bind (qtB hc.Bc) ?_
  cases hp : pinsB c.Bc
  · exact .done
  · obtain ⟨⟨hm, hm5⟩, _⟩ := qgr hp
    simp only [cond_true, jw, jW, cond_false]
    refine Ev.guardB ?_ (fun _ => ?_)
    · simp only [qcA, ja, qcQ]
      refine Ev.orB (qlQ hc.Bb) fun _ => ?_
      rw [show decide ((c.Ar.length : Int) > 8) = !decide (c.Ar.length ≤ 8) by rw [jh]; simp; omega, qcQ]
      exact Ev.orBP fun _ => Ev.orBP fun _ => .done
    · have hL2 : ∀ j, j < c.Ar.length → Ev (fun n => qdf c (j : Int) (gt c.Ar j) n 0) (bif newArc c.Ar j then .nxt (j : Int) else .ret false) := by
        intro j hj
        refine qd1 ?_ (fun i hi X hX => Ev.succ ?_)
        · exact Ev.succ (by simp only [qdf, qk (jb _), cond_false]; exact .done)
        · simp only [qdf, qj hi, cond_true, qB (show i < c.Ar.length by omega), ja, wS i]
          unfold sameArc
          cases ((gt c.Ar i).Be == (gt c.Ar j).Be)
          · exact hX
          · cases ((gt c.Ar i).Bk == (gt c.Ar j).Bk)
            · exact hX
            · cases ((gt c.Ar i).To == (gt c.Ar j).To)
              · exact hX
              · exact .done
      have hL1 : Ev (fun n => qe6 c n 0) (bif allN (fun j => arcS c.Bc (gt c.Ar j) && newArc c.Ar j) c.Ar.length then .nxt (c.Ar.length : Int) else .ret false) := by
        refine qd1 ?_ (fun j hj X hX => Ev.succ ?_)
        · exact Ev.succ (by simp only [qe6, qk (jb _), cond_false]; exact .done)
        · simp only [qe6, qj hj, cond_true, qB hj, ja, wS j]
          refine Ev.chk (qu0 hc.Bc (qmw hc.Ar hj) hm) fun _ => Ev.bind (hL2 j hj) ?_
          cases newArc c.Ar j
          · exact .done
          · exact hX
      have hL3 : Ev (fun n => qe0 c n 0) (bif (c.Br.all fun x => inI x 0 1) then .nxt (c.Br.length : Int) else .ret false) :=
        qnM (fun n => by simp only [qe0, qk (jb _), cond_false]) (fun j hj X hX => by
          simp only [qe0, qj hj, cond_true, qhW hj, ja, qcA, wS j, qcQ]
          exact Ev.okP1 fun _ => hX)
      refine Ev.bind hL1 ?_
      cases hA : allN (fun j => arcS c.Bc (gt c.Ar j) && newArc c.Ar j) c.Ar.length
      · exact .done
      · have hk : ∀ j, j < c.Ar.length → 1 ≤ (gt c.Ar j).Be ∧ (gt c.Ar j).Be ≤ 5 := fun j hj => by
          have := qag.1 hA j hj
          rw [jc] at this
          exact qq5 this.1
        simp only [cond_true, jw]
        refine Ev.bind (qsA hc.Ar hk) ?_
        simp only [(qsG hm hm5).2, ja,
          show idx (vecC (fun k => kindN c.Ar k c.Ar.length) 6) (1 : Int) = some ((kindN c.Ar 1 c.Ar.length : Nat) : Int) from qj9 (k := 1) (by omega),
          show idx (vecC (fun k => kindN c.Ar k c.Ar.length) 6) (2 : Int) = some ((kindN c.Ar 2 c.Ar.length : Nat) : Int) from qj9 (k := 2) (by omega),
          show idx (vecC (fun k => kindN c.Ar k c.Ar.length) 6) (3 : Int) = some ((kindN c.Ar 3 c.Ar.length : Nat) : Int) from qj9 (k := 3) (by omega), qqZ, qta]
        unfold kindB
        refine Ev.iff (fun _ => ?_) (fun _ => Ev.iff (fun _ => ?_) (fun _ => Ev.iff (fun _ => ?_) (fun _ => .done)))
        · refine Ev.bind hL3 ?_
          cases (c.Br.all fun x => inI x 0 1)
          · exact Ev.now (by simp)
          · exact (Ev.andP (fun _ => .done)).cast (by rw [Bool.and_true])
        · refine (Ev.andP fun _ => Ev.andP fun _ => Ev.andP fun _ => .done).cast ?_
          cases (((clkN c.Bc c.Bc.length : Nat) : Int) == 1) <;> cases ((c.Br.length : Int) == 0) <;> cases hasB c.Ar ((1 : Nat) : Int) <;> cases hasB c.Ar ((2 : Nat) : Int) <;> cases hasB c.Ar ((3 : Nat) : Int) <;> rfl
        · refine (Ev.andP fun _ => Ev.andP fun _ => Ev.andP fun _ => Ev.andP fun _ => .done).cast ?_
          cases (((clkN c.Bc c.Bc.length : Nat) : Int) == 1) <;> cases ((c.Br.length : Int) == 0) <;> cases hasB c.Ar ((1 : Nat) : Int) <;> cases hasB c.Ar ((2 : Nat) : Int) <;> cases hasB c.Ar ((3 : Nat) : Int) <;> rfl
def libB (l : qp) : Bool := l.Aq.all cellB && (decide (l.Aq.length ≤ 8) && namesB (l.Aq.map qA.Bb))
theorem qr8 {l : qp} (h : qho l) : Ev (fun n => qib n l) (libB l) := by
  have hl := h.Aq.len
  have hL : Ev (fun n => qcp l n ([] : List ByteArray) 0) (bif allN (fun j => cellB (gt l.Aq j)) l.Aq.length then .nxt (l.Aq.map qA.Bb, (l.Aq.length : Int)) else .ret false) := by
    refine loopN (Lf := qcp l) (S := fun j => (l.Aq.take j).map qA.Bb) (fun j => cellB (gt l.Aq j)) (fun n => ?_) (fun j hj hp X hX => ?_)
    · simp only [qcp, qk (jb _), cond_false, jB]
    · simp only [qcp, qj hj, cond_true, qB hj, ja, qlh hj hl, qfx (g := qA.Bb) hj, wS j]
      exact Ev.chk1 (quE (qmw h.Aq hj)) hX
  unfold qib libB
  rw [qhQ]
  refine Ev.bind hL ?_
  cases allN (fun j => cellB (gt l.Aq j)) l.Aq.length
  · exact .done
  · simp only [cond_true, jw, show decide ((l.Aq.length : Int) ≤ 8) = decide (l.Aq.length ≤ 8) from qmR (k := 8)]
    exact Ev.andP fun _ => Ev.last (qiT (qmO h.Aq (fun x hx => hx.Bb)))
end Go.Fw


namespace Go.Fw
open Go
set_option maxRecDepth 100000
theorem qtF {c : qA} (h : cellB c = true) : nameB c.Bb = true := by
 unfold cellB at h; rw [jc] at h; exact h.1
theorem qiB {c : qA} (h : cellB c = true) : pinsB c.Bc = true := by
 unfold cellB at h; simp only [jc] at h; exact h.2.1
theorem qqH {l : qp} (h : qho l) : Ev (fun n => qhP n l) (libB l) := by
 have hl := h.Aq.len
 have hL2 : ∀ j, j < l.Aq.length → Ev (fun n => qdn l (j : Int) n 0) (bif allN (neB (l.Aq.map qA.Bb) j) j then .nxt (j : Int) else .ret false) := by
  intro j hj
  refine qd1 ?_ (fun i hi X hX => Ev.succ ?_)
  ·exact Ev.succ (by simp only [qdn, qk (jb _), cond_false]; exact .done)
  ·simp only [qdn, qj hi, cond_true, qB (show i < l.Aq.length by omega), qB hj, ja, qgZ, wS i]
   unfold neB
   rw [qjP (g := qA.Bb) (show i < l.Aq.length by omega), qjP (g := qA.Bb) hj]
   exact Ev.chkP1 (fun _ => hX)
 have hL1 : Ev (fun n => qdk l n 0) (bif allN (fun j => cellB (gt l.Aq j) && allN (neB (l.Aq.map qA.Bb) j) j) l.Aq.length then .nxt (l.Aq.length : Int) else .ret false) := by
  refine qd1 ?_ (fun j hj X hX => Ev.succ ?_)
  ·exact Ev.succ (by simp only [qdk, qk (jb _), cond_false]; exact .done)
  ·simp only [qdk, qj hj, cond_true, qB hj, ja, wS j]
   refine Ev.chk (qtR (qmw h.Aq hj)) fun _ => Ev.bind (hL2 j hj) ?_
   cases allN (neB (l.Aq.map qA.Bb) j) j
   ·exact .done
   ·exact hX
 have e : libB l = (allN (fun j => cellB (gt l.Aq j) && allN (neB (l.Aq.map qA.Bb) j) j) l.Aq.length && decide (l.Aq.length ≤ 8)) := by
  unfold libB namesB
  rw [qhQ, jv, Bool.and_comm (decide (l.Aq.length ≤ 8)), ← Bool.and_assoc, ← qlm]
  congr 1
  refine qhu (fun j hj => ?_)
  rw [qjP (g := qA.Bb) hj]
  cases hc : cellB (gt l.Aq j)
  ·rfl
  ·rw [qtF hc]; rfl
 rw [e]
 unfold qhP
 refine Ev.bind hL1 ?_
 cases allN (fun j => cellB (gt l.Aq j) && allN (neB (l.Aq.map qA.Bb) j) j) l.Aq.length
 ·exact .done
 ·refine Ev.now ?_
  show some (decide ((l.Aq.length : Int) ≤ ((8 : Nat) : Int))) = some (true && decide (l.Aq.length ≤ 8))
  rw [qmR, jw]
theorem qle {c c' : Nat → Nat} {m : Nat} {x : Int} (h0 : 0 ≤ x) (h1 : x < m) (hc : c x.toNat < 9223372036854775807) (he : ∀ k, k < m → c' k = c k + (bif x == (k : Int) then 1 else 0)) :
  idx (vecC c m) x = some (c x.toNat : Int) ∧ setS (vecC c m) x (W64 ((c x.toNat : Int) + 1)) = vecC c' m := by
 have ex : x = (x.toNat : Int) := qfZ h0
 have e1 := qj9 (c := c) (m := m) (k := x.toNat) (by omega)
 have e2 := qrj (c := c) (m := m) (k := x.toNat) hc
 rw [← ex] at e1 e2
 refine ⟨e1, e2.trans (qj6 (fun k hk => ?_))⟩
 rw [he k hk]
 congr 2
 rw [jh]; simp; omega
def netB (d : qd) (x : Int) : Bool := inI x 0 ((d.Am.length : Int) - 1)
theorem qsX {n : Nat} {d : qd} {x : Int} (hl : d.Am.length ≤ 1048576) : qdi n d x = some (netB d x) := by
 simp only [qdi, qhx, ja, qcV, qev (show d.Am.length ≤ 9223372036854775807 by omega)]; rfl
theorem qq3 {n : Nat} {d : qd} {x : Int} (hl : d.Am.length ≤ 1048576) : qaq n x 0 (W64 ((d.Am.length : Int) - 1)) = some (netB d x) := by
 rw [qcA, qev (show d.Am.length ≤ 9223372036854775807 by omega)]; rfl
def hasNamesB (d : qd) : Bool := (decide (d.Aa.length ≤ 14) && (decide (d.Am.length ≤ 30) && decide (d.Aj.length ≤ 8))) && (namesB (d.Aa.map qn.Bb) && (namesB d.Am && namesB (d.Aj.map qak.Bb)))
theorem qsd {d : qd} (h : qjL d) : Ev (fun n => qew n d) (hasNamesB d) := by
 have hli := h.Aa.len
 have hlp := h.Aj.len
 have hL1 : Ev (fun n => qa9 d n ([] : List ByteArray) 0) (d.Aa.map qn.Bb, (d.Aa.length : Int)) := by
  refine loopF (Lf := qa9 d) (S := fun j => (d.Aa.take j).map qn.Bb) (len := d.Aa.length) (fun n => ?_) (fun j hj X hX => ?_)
  ·simp only [qa9, qk (jb _), cond_false, jB]
  ·simpa only [qa9, qj hj, cond_true, qB hj, ja, qlh hj hli, qfx (g := qn.Bb) hj, wS j] using hX
 have hL2 : Ev (fun n => qbb d n ([] : List ByteArray) 0) (d.Aj.map qak.Bb, (d.Aj.length : Int)) := by
  refine loopF (Lf := qbb d) (S := fun j => (d.Aj.take j).map qak.Bb) (len := d.Aj.length) (fun n => ?_) (fun j hj X hX => ?_)
  ·simp only [qbb, qk (jb _), cond_false, jB]
  ·simpa only [qbb, qj hj, cond_true, qB hj, ja, qlh hj hlp, qfx (g := qak.Bb) hj, wS j] using hX
 unfold qew hasNamesB
 refine Ev.bind hL1 (Ev.bind hL2 ?_)
 simp only [jv]
 rw [show decide ((d.Aa.length : Int) ≤ 14) = decide (d.Aa.length ≤ 14) from qmR (k := 14), show decide ((d.Am.length : Int) ≤ 30) = decide (d.Am.length ≤ 30) from qmR (k := 30), show decide ((d.Aj.length : Int) ≤ 8) = decide (d.Aj.length ≤ 8) from qmR (k := 8)]
 rw [Bool.and_assoc, Bool.and_assoc]
 exact Ev.andP fun _ => Ev.andP fun _ => Ev.andP fun _ => Ev.and (qiT (qmO h.Aa (fun x hx => hx.Bb))) fun _ => Ev.and (qiT h.Am) fun _ => Ev.last (qiT (qmO h.Aj (fun x hx => hx.Bb)))
def instB (l : qp) (d : qd) (x : qn) : Bool := inI x.Bs 0 ((l.Aq.length : Int) - 1) && (((x.Am.length : Int) == ((gt l.Aq x.Bs.toNat).Bc.length : Int)) && x.Am.all (netB d))
theorem qqE {d : qd} {l : qp} {x : qn} (hn : d.Am.length ≤ 1048576) (hc : l.Aq.length ≤ 1048576) (hx : x.Am.length ≤ 1048576) : Ev (fun n => qdK n d l x) (instB l d x) := by
 simp only [qdK, qf0, ja, qcV, qev (show l.Aq.length ≤ 9223372036854775807 by omega)]
 unfold instB
 refine Ev.andP fun hI => ?_
 rw [qa0] at hI
 rw [qdd hI.1 (by omega)]
 simp only [ja]
 refine Ev.andP fun _ => Ev.bind (b := x.Am.any fun y => !netB d y) ?_ (Ev.now (by rw [qn2]))
 unfold qaJ
 exact Ev.bind (b := ixL (fun y => !netB d y) x.Am) (qfb (fin := (x.Am.length : Int)) (Lf := qG x.Am d) (pf := fun n y => qc5 n y d) (fun y _ => ⟨0, fun n _ => by simp only [qc5, qsX hn, ja]⟩)
   (fun n => by simp only [qG, qk (jb _), cond_false])
   (fun n j y hx => by
    have hj := (List.getElem?_eq_some_iff.1 hx).1
    simp only [qG, qj hj, cond_true, qaw hx, ja, wS j])
   (fun n => by unfold qaR; congr 1; funext o; cases o <;> rfl)) (Ev.now (by rw [qmJ]))
def portB (d : qd) (p : qak) : Bool := inI p.Bv 1 2 && netB d p.Bx
theorem qxP {x : Int} : inI x 1 2 = ((x == 1) || (x == 2)) := by
 unfold inI; rw [jh]; simp; omega
def lastN (x : qn) : Int := at0 x.Am (x.Am.length - 1)
theorem qsW {x : qn} (h1 : 1 ≤ x.Am.length) (h2 : x.Am.length ≤ 1048576) : idx x.Am (W64 ((x.Am.length : Int) - 1)) = some (lastN x) := by
 rw [qev (by omega), show ((x.Am.length : Int) - 1) = ((x.Am.length - 1 : Nat) : Int) by omega, qaf (by omega)]; rfl
theorem qt9 {d : qd} {x : qn} (h1 : 1 ≤ x.Am.length) (h : x.Am.all (netB d) = true) : 0 ≤ lastN x ∧ lastN x < d.Am.length := by
 rw [qgp (d := 0), qag] at h
 have := h (x.Am.length - 1) (by omega)
 unfold netB at this
 rw [qa0] at this
 unfold lastN at0
 omega
theorem qqi {l : qp} {d : qd} {x : qn} (hl : libB l = true) (h : instB l d x = true) : 1 ≤ x.Am.length ∧ 0 ≤ lastN x ∧ lastN x < d.Am.length := by
 unfold instB at h
 simp only [jc, qa0, beq_iff_eq] at h
 obtain ⟨h1, h2, h3⟩ := h
 unfold libB at hl
 simp only [jc] at hl
 have hc := hl.1
 rw [qhQ, qag] at hc
 have := qgr (qiB (hc x.Bs.toNat (by omega)))
 have h4 : 1 ≤ x.Am.length := by omega
 exact ⟨h4, qt9 h4 h3⟩
def drvI (d : qd) (k j : Nat) : Nat := cntP (fun i => lastN (gt d.Aa i) == (k : Int)) j
def drvP (d : qd) (k j : Nat) : Nat := cntP (fun i => ((gt d.Aj i).Bv == 1) && ((gt d.Aj i).Bx == (k : Int))) j
def drvB (d : qd) : Bool := allN (fun k => ((drvI d k d.Aa.length + drvP d k d.Aj.length : Nat) : Int) == 1) d.Am.length
def designB (l : qp) (d : qd) : Bool := (libB l && hasNamesB d) && (d.Aa.all (instB l d) && (d.Aj.all (portB d) && drvB d))
theorem qoN {d : qd} {k j : Nat} : drvI d k (j + 1) = drvI d k j + (bif lastN (gt d.Aa j) == (k : Int) then 1 else 0) := rfl
theorem qmU {d : qd} {k j : Nat} : drvP d k (j + 1) = drvP d k j + (bif ((gt d.Aj j).Bv == 1) && ((gt d.Aj j).Bx == (k : Int)) then 1 else 0) := rfl
theorem qsK {l : qp} {d : qd} (h : qho l) (hd : qjL d) : Ev (fun n => qiD n l d) (designB l d) := by
 have hli := hd.Aa.len
 have hlp := hd.Aj.len
 have hln := hd.Am.len
 have hlc := h.Aq.len
 unfold qiD designB
 refine Ev.guardB (Ev.or (qr8 h) fun _ => Ev.neg (qsd hd)) fun hb => ?_
 rw [jc] at hb
 rw [qmY (m := d.Am.length) (by omega)]
 simp only [ja]
 have hL1 : Ev (fun n => qcS l d n (vecC (fun _ => 0) d.Am.length) 0) (bif allN (fun j => instB l d (gt d.Aa j)) d.Aa.length then .nxt (vecC (fun k => drvI d k d.Aa.length) d.Am.length, (d.Aa.length : Int)) else .ret false) := by
  refine loopN (Lf := qcS l d) (S := fun j => vecC (fun k => drvI d k j) d.Am.length) (fun j => instB l d (gt d.Aa j)) (fun n => ?_) (fun j hj hp X hX => ?_)
  ·simp only [qcS, qk (jb _), cond_false]
  ·simp only [qcS, qj hj, cond_true, qB hj, ja, wS j]
   have hxl := (qmw hd.Aa hj).Am.len
   refine Ev.chk1 (qqE hln hlc hxl) fun hi => ?_
   obtain ⟨h1, h2, h3⟩ := qqi hb.1 hi
   have hc : drvI d (lastN (gt d.Aa j)).toNat j ≤ j := qfn
   obtain ⟨e1, e2⟩ := qle (c := fun k => drvI d k j) (c' := fun k => drvI d k (j + 1)) h2 h3 (by show drvI _ _ _ < _; omega) (fun k _ => qoN)
   simp only [qsW h1 hxl, ja, e1, e2]
   exact hX hi
 have hL2 : Ev (fun n => qcf d n (vecC (fun k => drvI d k d.Aa.length) d.Am.length) 0) (bif allN (fun j => portB d (gt d.Aj j)) d.Aj.length then .nxt (vecC (fun k => drvI d k d.Aa.length + drvP d k d.Aj.length) d.Am.length, (d.Aj.length : Int)) else .ret false) := by
  refine loopN (Lf := qcf d) (S := fun j => vecC (fun k => drvI d k d.Aa.length + drvP d k j) d.Am.length) (fun j => portB d (gt d.Aj j)) (fun n => ?_) (fun j hj hp X hX => ?_)
  ·simp only [qcf, qk (jb _), cond_false]
  ·simp only [qcf, qj hj, cond_true, qB hj, ja, qsX hln, bne, wS j]
   refine Ev.chkT1 ?_ fun hi => ?_
   ·unfold portB
    rw [qxP]
    cases ((gt d.Aj j).Bv == 1) <;> cases ((gt d.Aj j).Bv == 2) <;> exact .done
   ·have hX := hX hi
    unfold portB netB at hi
    simp only [jc, qa0] at hi
    have hc1 : drvI d (gt d.Aj j).Bx.toNat d.Aa.length ≤ d.Aa.length := qfn
    have hc2 : drvP d (gt d.Aj j).Bx.toNat j ≤ j := qfn
    cases h1 : ((gt d.Aj j).Bv == 1)
    ·have : vecC (fun k => drvI d k d.Aa.length + drvP d k (j + 1)) d.Am.length = vecC (fun k => drvI d k d.Aa.length + drvP d k j) d.Am.length := by
      refine qj6 (fun k _ => ?_)
      rw [qmU, h1]; rfl
     rw [this] at hX
     exact hX
    ·obtain ⟨e1, e2⟩ := qle (c := fun k => drvI d k d.Aa.length + drvP d k j) (c' := fun k => drvI d k d.Aa.length + drvP d k (j + 1)) (x := (gt d.Aj j).Bx) (m := d.Am.length) hi.2.1 (by omega) (by show drvI _ _ _ + drvP _ _ _ < _; omega) (fun k _ => by rw [qmU, h1, jw]; omega)
     simp only [cond_true, ja, e1, e2]
     exact hX
 rw [qhQ, qhQ]
 refine Ev.bind hL1 ?_
 cases allN (fun j => instB l d (gt d.Aa j)) d.Aa.length
 ·exact .done
 ·refine Ev.bind hL2 ?_
  cases allN (fun j => portB d (gt d.Aj j)) d.Aj.length
  ·exact .done
  ·simp only [cond_true, jw]
   unfold qbC
   refine Ev.bind (b := (vecC (fun k => drvI d k d.Aa.length + drvP d k d.Aj.length) d.Am.length).any fun x => !(x == 1)) (Ev.bind (b := ixL (fun x => !(x == 1)) (vecC (fun k => drvI d k d.Aa.length + drvP d k d.Aj.length) d.Am.length)) (qfb (fin := (((vecC (fun k => drvI d k d.Aa.length + drvP d k d.Aj.length) d.Am.length).length : Nat) : Int)) (Lf := qai (vecC (fun k => drvI d k d.Aa.length + drvP d k d.Aj.length) d.Am.length)) (pf := fun n y => qjk n y) (fun y _ => .done)
    (fun n => by simp only [qai, qk (jb _), cond_false])
    (fun n j y hx => by
     have hj := (List.getElem?_eq_some_iff.1 hx).1
     have : j < d.Am.length := by rw [qmL] at hj; exact hj
     simp only [qai, qj hj, cond_true, qaw hx, ja, wS j])
    (fun n => by unfold qbX; congr 1; funext o; cases o <;> rfl)) (Ev.now (by rw [qmJ]))) (Ev.now ?_)
   rw [qn2, qgp (d := 0), qmL]
   unfold drvB
   congr 1
   exact qhu (fun k hk => by
    have := qsI (c := fun k => drvI d k d.Aa.length + drvP d k d.Aj.length) hk
    unfold at0 at this
    rw [this])
theorem qsN {l : qp} {d : qd} (h : qho l) (hd : qjL d) : Ev (fun n => qiH n l d) (d.Aa.all (instB l d) && d.Aj.all (portB d)) := by
 have hli := hd.Aa.len
 have hlp := hd.Aj.len
 have hln := hd.Am.len
 have hlc := h.Aq.len
 have hL2 : ∀ x : qn, x.Am.length ≤ 1048576 → Ev (fun n => qd0 d x n 0) (bif x.Am.all (netB d) then .nxt (x.Am.length : Int) else .ret false) := fun x hx =>
  qnM (fun n => by simp only [qd0, qk (jb _), cond_false]) (fun j hj X hX => by
   simp only [qd0, qj hj, cond_true, qhW hj, ja, qq3 hln, wS j, qcQ]
   exact Ev.okP1 fun _ => hX)
 have hL1 : Ev (fun n => qdO l d n 0) (bif allN (fun j => instB l d (gt d.Aa j)) d.Aa.length then .nxt (d.Aa.length : Int) else .ret false) := by
  refine qd1 ?_ (fun j hj X hX => Ev.succ ?_)
  ·exact Ev.succ (by simp only [qdO, qk (jb _), cond_false]; exact .done)
  ·simp only [qdO, qj hj, cond_true, qB hj, ja, qcA, qev (show l.Aq.length ≤ 9223372036854775807 by omega), wS j, bne]
   have hxl := (qmw hd.Aa hj).Am.len
   unfold instB
   rw [← Bool.and_assoc]
   refine Ev.chkT ?_ fun _ => Ev.bind (hL2 _ hxl) ?_
   ·simp only [qcQ]
    refine Ev.orBP fun hI => ?_
    rw [qa0] at hI
    rw [qdd hI.1 (by omega)]
    exact .done
   ·cases (gt d.Aa j).Am.all (netB d)
    ·exact .done
    ·exact hX
 have hL3 : Ev (fun n => qdS d n 0) (bif allN (fun j => portB d (gt d.Aj j)) d.Aj.length then .nxt (d.Aj.length : Int) else .ret false) := by
  refine qd1 ?_ (fun j hj X hX => Ev.succ ?_)
  ·exact Ev.succ (by simp only [qdS, qk (jb _), cond_false]; exact .done)
  ·simp only [qdS, qj hj, cond_true, qB hj, ja, qq3 hln, wS j]
   simp only [qcA, ja, qcQ]
   unfold portB
   exact Ev.okP fun _ => Ev.okP1 fun _ => hX
 unfold qiH
 rw [qhQ, qhQ]
 refine Ev.bind hL1 ?_
 cases allN (fun j => instB l d (gt d.Aa j)) d.Aa.length
 ·exact .done
 ·refine Ev.bind hL3 ?_
  cases allN (fun j => portB d (gt d.Aj j)) d.Aj.length <;> exact .done
theorem qr2 {l : qp} {d : qd} (h : qho l) (hd : qjL d) : Ev (fun n => qiP n l d) (designB l d) := by
 have hli := hd.Aa.len
 have hlp := hd.Aj.len
 have hln := hd.Am.len
 have hlc := h.Aq.len
 have e : designB l d = ((libB l && (decide (d.Aa.length ≤ 14) && (decide (d.Am.length ≤ 30) && (decide (d.Aj.length ≤ 8) && (d.Aa.all (instB l d) && d.Aj.all (portB d)))))) && ((namesB (d.Aa.map qn.Bb) && (namesB (d.Aj.map qak.Bb) && namesB d.Am)) && drvB d)) := by
  unfold designB hasNamesB
  generalize libB l = a1
  generalize decide (d.Aa.length ≤ 14) = a2
  generalize decide (d.Am.length ≤ 30) = a3
  generalize decide (d.Aj.length ≤ 8) = a4
  generalize d.Aa.all (instB l d) = a5
  generalize d.Aj.all (portB d) = a6
  generalize namesB (d.Aa.map qn.Bb) = a7
  generalize namesB (d.Aj.map qak.Bb) = a8
  generalize namesB d.Am = a9
  generalize drvB d = a10
  rw [jh]
  simp only [jc]
  constructor
  ·rintro ⟨⟨h1, ⟨h2, h3, h4⟩, h7, h9, h8⟩, h5, h6, h10⟩
   exact ⟨⟨h1, h2, h3, h4, h5, h6⟩, ⟨h7, h8, h9⟩, h10⟩
  ·rintro ⟨⟨h1, h2, h3, h4, h5, h6⟩, ⟨h7, h8, h9⟩, h10⟩
   exact ⟨⟨h1, ⟨h2, h3, h4⟩, h7, h9, h8⟩, h5, h6, h10⟩
 rw [e]
 unfold qiP
 refine Ev.guardB ?_ fun hb => ?_
 ·refine Ev.or (qqH h) fun _ => ?_
  rw [show decide ((d.Aa.length : Int) > 14) = !decide (d.Aa.length ≤ 14) by rw [jh]; simp; omega, show decide ((d.Am.length : Int) > 30) = !decide (d.Am.length ≤ 30) by rw [jh]; simp; omega, show decide ((d.Aj.length : Int) > 8) = !decide (d.Aj.length ≤ 8) by rw [jh]; simp; omega]
  simp only [qcQ]
  exact Ev.orBP fun _ => Ev.orBP fun _ => Ev.orBP fun _ => Ev.neg (qsN h hd)
 ·simp only [jc] at hb
  obtain ⟨hlib, _, _, _, hI, hP⟩ := hb
  rw [qhQ, qag] at hI hP
  have hL1 : Ev (fun n => qc4 d n ([] : List ByteArray) 0) (d.Aa.map qn.Bb, (d.Aa.length : Int)) := by
   refine loopF (Lf := qc4 d) (S := fun j => (d.Aa.take j).map qn.Bb) (len := d.Aa.length) (fun n => ?_) (fun j hj X hX => ?_)
   ·simp only [qc4, qk (jb _), cond_false, jB]
   ·simpa only [qc4, qj hj, cond_true, qB hj, ja, qlh hj hli, qfx (g := qn.Bb) hj, wS j] using hX
  have hL2 : Ev (fun n => qcY d n ([] : List ByteArray) 0) (d.Aj.map qak.Bb, (d.Aj.length : Int)) := by
   refine loopF (Lf := qcY d) (S := fun j => (d.Aj.take j).map qak.Bb) (len := d.Aj.length) (fun n => ?_) (fun j hj X hX => ?_)
   ·simp only [qcY, qk (jb _), cond_false, jB]
   ·simpa only [qcY, qj hj, cond_true, qB hj, ja, qlh hj hlp, qfx (g := qak.Bb) hj, wS j] using hX
  have hL3 : Ev (fun n => qcT d n (vecC (fun _ => 0) d.Am.length) 0) (vecC (fun k => drvI d k d.Aa.length) d.Am.length, (d.Aa.length : Int)) := by
   refine loopF (Lf := qcT d) (S := fun j => vecC (fun k => drvI d k j) d.Am.length) (len := d.Aa.length) (fun n => ?_) (fun j hj X hX => ?_)
   ·simp only [qcT, qk (jb _), cond_false]
   ·have hxl := (qmw hd.Aa hj).Am.len
    obtain ⟨h1, h2, h3⟩ := qqi hlib (hI j hj)
    have hc : drvI d (lastN (gt d.Aa j)).toNat j ≤ j := qfn
    obtain ⟨e1, e2⟩ := qle (c := fun k => drvI d k j) (c' := fun k => drvI d k (j + 1)) h2 h3 (by show drvI _ _ _ < _; omega) (fun k _ => qoN)
    simpa only [qcT, qj hj, cond_true, qB hj, ja, wS j, qsW h1 hxl, e1, e2] using hX
  have hL4 : Ev (fun n => qcb d n (vecC (fun k => drvI d k d.Aa.length) d.Am.length) 0) (vecC (fun k => drvI d k d.Aa.length + drvP d k d.Aj.length) d.Am.length, (d.Aj.length : Int)) := by
   refine loopF (Lf := qcb d) (S := fun j => vecC (fun k => drvI d k d.Aa.length + drvP d k j) d.Am.length) (len := d.Aj.length) (fun n => ?_) (fun j hj X hX => ?_)
   ·simp only [qcb, qk (jb _), cond_false]
   ·have hi := hP j hj
    unfold portB netB at hi
    simp only [jc, qa0] at hi
    have hc1 : drvI d (gt d.Aj j).Bx.toNat d.Aa.length ≤ d.Aa.length := qfn
    have hc2 : drvP d (gt d.Aj j).Bx.toNat j ≤ j := qfn
    simp only [qcb, qj hj, cond_true, qB hj, ja, wS j]
    cases h1 : ((gt d.Aj j).Bv == 1)
    ·have : vecC (fun k => drvI d k d.Aa.length + drvP d k (j + 1)) d.Am.length = vecC (fun k => drvI d k d.Aa.length + drvP d k j) d.Am.length := by
      refine qj6 (fun k _ => ?_)
      rw [qmU, h1]; rfl
     rw [this] at hX
     exact hX
    ·obtain ⟨e1, e2⟩ := qle (c := fun k => drvI d k d.Aa.length + drvP d k j) (c' := fun k => drvI d k d.Aa.length + drvP d k (j + 1)) (x := (gt d.Aj j).Bx) (m := d.Am.length) hi.2.1 (by omega) (by show drvI _ _ _ + drvP _ _ _ < _; omega) (fun k _ => by rw [qmU, h1, jw]; omega)
     simp only [cond_true, ja, e1, e2]
     exact hX
  have hL5 : Ev (fun n => qdU (vecC (fun _ => 0) d.Am.length) (vecC (fun k => drvI d k d.Aa.length + drvP d k d.Aj.length) d.Am.length) n 0) (bif drvB d then .nxt (d.Am.length : Int) else .ret false) := by
   refine qd1 ?_ (fun j hj X hX => Ev.succ ?_)
   ·exact Ev.succ (by simp only [qdU, qmL, qk (jb _), cond_false]; exact .done)
   ·simp only [qdU, qmL, qj hj, cond_true, qj9 hj, ja, bne, qcQ, wS j]
    exact Ev.okP1 fun _ => hX
  refine Ev.bind hL1 (Ev.bind hL2 ?_)
  refine Ev.guardB (Ev.or (qmM (qmO hd.Aa (fun x hx => hx.Bb))) fun _ => Ev.or (qmM (qmO hd.Aj (fun x hx => hx.Bb))) fun _ => Ev.neg (qmM hd.Am)) fun _ => ?_
  rw [qmY (m := d.Am.length) (by omega)]
  simp only [ja]
  refine Ev.bind hL3 (Ev.bind hL4 (Ev.bind hL5 ?_))
  cases drvB d <;> exact .done
end Go.Fw
