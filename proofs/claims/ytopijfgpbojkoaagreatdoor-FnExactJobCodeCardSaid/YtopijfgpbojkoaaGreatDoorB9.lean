/- By a program of mine (gen.py): for each function a plain function and the proof that the code computes it. -/
import Derived.Test.YtopijfgpbojkoaaGreatDoorA2
import Derived.Test.YtopijfgpbojkoaaGreatDoorFw33
open Option renaming bind_some → ja
open Nat renaming le_refl → jb, mul_le_mul_right → jj, le_of_ble_eq_true → jq, lt_of_lt_of_le → js, succ_mul → jE, zero_add → jT
open Bool renaming and_eq_true → jc, eq_iff_iff → jh, true_and → jv, not_eq_true' → jD, not_true → jV
open Go.Result renaming andThen_ok → jd
open List renaming length_append → je, getElem?_eq_getElem → jf, length_singleton → jk, append_assoc → jm, mem_cons_of_mem → jn, getElem_mem → jp, getElem?_append_left → jr, mem_cons_self → jt, length_map → ju, getElem?_take → jw, getElem?_append_right → jx, getD_eq_getElem?_getD → jy, take_succ_eq_append_getElem → jz, getElem?_toArray → jA, eq_nil_of_length_eq_zero → jB, take_length → jC, not_mem_nil → jF, length_replicate → jG, size_toArray → jH, getElem_of_mem → jL, map_append → jM, mem_cons → jO, all_eq_true → jQ, length_take → jR, ext_getElem → jS
open Go.Sem renaming run_bind → jg, run_pure → ji
open Int renaming toNat_natCast → jo, tdiv_eq_ediv_of_nonneg → jJ, mul_nonneg → jK, mul_assoc → jN, mul_le_mul → jP, le_refl → jU
open Array renaming getElem?_append_left → jI

namespace Go.Fw
open Go Go.Proofs
open Go.RowKit (Below)
set_option maxRecDepth 100000
set_option maxHeartbeats 1600000
variable {n:Nat} {w:World} {cs1 cs2 cs3 cs4 cs5 cs6 cs7 cs8 cs9:List Value}
def qcZ (a_0:qz) (i1:Int) (y1:qN):Nat→Int→Option (Flow Bool Int)
 | 0,_=>none
 | n+1,i2 =>
  bif decide (i2<i1) then
   (idx a_0.Am i2).bind fun y2 =>
   bif (y2.Ba==y1.Ba) then
    (idx a_0.Am i2).bind fun y3 =>
    bif (y3.Bi==y1.Bi) then
     (idx a_0.Am i2).bind fun y4 =>
     bif (y4.To==y1.To) then some (.ret false) else
     qcZ a_0 i1 y1 n (W64 (i2+1))
    else
     qcZ a_0 i1 y1 n (W64 (i2+1))
   else
    qcZ a_0 i1 y1 n (W64 (i2+1))
  else
   some (.nxt i2)
def qeN (a_0:qz):Nat→Int→Option (Flow Bool Int)
 | 0,_=>none
 | n+1,i3 =>
  bif decide (i3<(a_0.Br.length:Int)) then
   (idx a_0.Br i3).bind fun y5 =>
   (qao n y5 0 1).bind fun r6 =>
   bif (!r6) then some (.ret false) else
   qeN a_0 n (W64 (i3+1))
  else
   some (.nxt i3)
def qeP (a_0:qz):Nat→Int→Option (Flow Bool Int)
 | 0,_=>none
 | n+1,i1 =>
  bif decide (i1<(a_0.Am.length:Int)) then
   (idx a_0.Am i1).bind fun y1 =>
   (qkd n a_0 y1).bind fun r4 =>
   bif (!r4) then some (.ret false) else
   (qcZ a_0 i1 y1 n 0).bind fun o=>match o with
   | .ret r=>some (.ret r)
   | .nxt _ =>
    qeP a_0 n (W64 (i1+1))
  else
   some (.nxt i1)
def qkc (n:Nat) (a_0:qz):Option Bool :=
 (qjd n a_0).bind fun o=>match o with
  | (r2,r3) =>
   (
    bif (!r3) then some true else
    (qfe n a_0.Av).bind fun r7 =>
    bif (!r7) then some true else
    bif decide ((a_0.Am.length:Int) > 8) then some true else
    (qao n a_0.Ca 0 100000).bind fun r8 =>
    bif (!r8) then some true else
    (qao n a_0.Bu 0 100000).bind fun r9 =>
    some (!r9)).bind fun b1 =>
   bif b1 then some false else
   (qeP a_0 n 0).bind fun o=>match o with
   | .ret r=>some r
   | .nxt _ =>
    (qii n a_0).bind fun r5 =>
    bif (a_0.Ba==1) then
     (qeN a_0 n 0).bind fun o=>match o with
     | .ret r=>some r
     | .nxt _ =>
      bif (r2==0) then
       (shlS 1 (IntKind.wrap .u64 (W64 ((a_0.Az.length:Int)-1)))).bind fun y6 =>
       some ((a_0.Br.length:Int)==y6)
      else
       some false
    else
     bif (a_0.Ba==2) then
      bif (r2==1) then
       (idx r5 1).bind fun y7 =>
       bif (y7==0) then
        (idx r5 2).bind fun y8 =>
        (idx r5 3).bind fun y9 =>
        bif (!((decide (y8 > 0))==(decide (y9 > 0)))) then some ((a_0.Br.length:Int)==0) else
        some false
       else
        some false
      else
       some false
     else
      bif (a_0.Ba==3) then
       bif (r2==1) then
        (idx r5 1).bind fun y10 =>
        bif decide (y10 > 0) then
         (idx r5 2).bind fun y11 =>
         bif decide (y11 > 0) then
          (idx r5 3).bind fun y12 =>
          bif (y12==0) then some ((a_0.Br.length:Int)==0) else
          some false
         else
          some false
        else
         some false
       else
        some false
      else
       some false
theorem qpt {a_0:qz} (ha1:GoT.R w (old w) a_0 cs1) {r:Bool} (hF:qkc n a_0=some r):RetV Tryz.prog 194 [GoT.v qz cs1] w r:=by
 obtain ⟨p1,k1,p2,k2,p3,k3,rfl,s1,s2,s3⟩:=qW ha1
 refine zV 182 Tryz.func194 rfl fun h=>zSR (qt h rfl rfl fun w1 bb1 h=>X1 5 0 h rfl ?_)
 obtain ⟨r1,hr1,hF⟩:=qc hF
 obtain ⟨r2,r3⟩:=r1
 refine qbD (r2,r3) h (cB 227 rfl) (qoM (h.old ha1) hr1) rfl rfl rfl rfl fun w2 S1 us1 hv1 hr2=>?_
 obtain ⟨S2,us2,rfl,hv2,hr3⟩:=hv1.consI hr2
 obtain ⟨rfl,h⟩:=hv2.lastB hr3
 refine X0 8 rfl ?_
 obtain ⟨KF1,hKF1,o4,hF,hK4⟩:=bindE hF
 refine qbp (fun e w'=>∃ (b1:Bool),KF1 b1=some r∧e=[(1,.pointer (some ⟨bb1,0,none⟩)),(3,.int .i64 r2),(40,.bool b1)]∧SH w w' [Ch.box bb1 (qdt a_0 p1 p2 p3 k1 k2 k3) 166]) ?_ ?_
 ·refine X0 4 rfl (qi (t:=17) hF rfl ?_ ?_)<;>intro hF
  ·refine X0 24 rfl ?_
   obtain rfl:=qb hF
   exact rG ⟨_,hK4,rfl,h⟩ rfl
  refine X1 5 0 h rfl (zcB h hF qgV rfl fun r7 w18 h hF=>X0 4 rfl (qi (t:=23) hF rfl ?_ ?_))<;>intro hF
  ·refine X0 18 rfl ?_
   obtain rfl:=qb hF
   exact rG ⟨_,hK4,rfl,h⟩ rfl
  refine X1 10 0 h rfl (qi (t:=29) hF rfl ?_ ?_)<;>intro hF
  ·refine X0 12 rfl ?_
   obtain rfl:=qb hF
   exact rG ⟨_,hK4,rfl,h⟩ rfl
  refine X1 5 0 h rfl (zcB h hF qZ rfl fun r8 w19 h hF=>X0 4 rfl (qi (t:=35) hF rfl ?_ ?_))<;>intro hF
  ·refine X0 6 rfl ?_
   obtain rfl:=qb hF
   exact rG ⟨_,hK4,rfl,h⟩ rfl
  refine X1 5 0 h rfl (zcB h hF qZ rfl fun r9 w20 h hF=>X0 4 rfl ?_)
  obtain rfl:=qb hF
  exact rG ⟨_,hK4,rfl,h⟩ rfl
 rintro e4 w21 ⟨b1,hF,rfl,h⟩
 subst hKF1
 refine qh rfl hF ?_ ?_<;>intro hF
 ·exact X0 4 rfl (rb h hF rfl)
 refine X0 6 rfl ?_
 obtain ⟨o1,hF,hK1⟩:=qc hF
 refine ql (rL (fun m e w'=>∃ (i1:Int),qeP a_0 m i1=some o1∧e=[(1,.pointer (some ⟨bb1,0,none⟩)),(3,.int .i64 r2),(5,.int .i64 i1)]∧SH w w' [Ch.box bb1 (qdt a_0 p1 p2 p3 k1 k2 k3) 166]) n ⟨_,hF,rfl,h⟩ rfl ?_)
 rintro m1 e1 w3 ⟨i1,hF,rfl,h⟩
 rcases m1 with _|m1
 ·cases hF
 refine X1 9 0 h rfl (qh rfl hF ?_ ?_)<;>intro hF
 ·refine X1 8 0 h rfl ?_
  obtain ⟨y1,hy1,hF,he1,b2,_,q1,cs2,hp1,hq1,hr5,hc3⟩:=s2.ix hF
  obtain ⟨p4,k4,p5,k5,rfl,s4,s5⟩:=qX hr5
  refine zxe hp1 hq1 he1 rfl (zc 0 (hc3.below h.below) rfl (qm qa h rfl rfl rfl fun w4 bb2 h=>zs 0 h rfl fun w5 h=>X2 6 1 0 h rfl (zcB h hF (qpg (h.old ha1) (qeM y1 (h.oldS s4) (h.oldS s5))) rfl fun r4 w6 h hF=>X0 2 rfl (qh rfl hF ?_ ?_))))<;>intro hF
  ·refine X0 4 rfl ?_
   obtain rfl:=qb hF;replace hF:=hK1
   exact rb h hF rfl
  refine X0 5 rfl ?_
  obtain ⟨o2,hF,hK2⟩:=qc hF
  refine ql (rL (fun m e w'=>∃ (i2:Int),qcZ a_0 i1 y1 m i2=some o2∧e=[(1,.pointer (some ⟨bb1,0,none⟩)),(3,.int .i64 r2),(5,.int .i64 i1),(6,.pointer (some ⟨bb2,0,none⟩)),(7,.int .i64 i2)]∧SH w w' [Ch.box bb2 (qfY y1 p4 p5 k4 k5) 171,Ch.box bb1 (qdt a_0 p1 p2 p3 k1 k2 k3) 166]) m1 ⟨_,hF,rfl,h⟩ rfl ?_)
  rintro m2 e2 w7 ⟨i2,hF,rfl,h⟩
  rcases m2 with _|m2
  ·cases hF
  refine X0 7 rfl (qh rfl hF ?_ ?_)<;>intro hF
  ·refine X0 4 rfl (rD (Y1 2 1 h rfl ?_))
   refine zd1 rfl ?_
   obtain ⟨y2,hy2,hF,he2,b3,_,q2,cs3,hp2,hq2,hr7,hc6⟩:=s2.ix hF
   obtain ⟨p6,k6,p7,k7,rfl,s6,s7⟩:=qX hr7
   refine zdxe hp2 hq2 he2 rfl (zd1 rfl (zdc 0 (hc6.below h.below) rfl (Y1 2 0 h rfl ?_)))
   refine zd2 rfl (qaR (t:=71) hF rfl ?_ ?_)<;>intro hF
   ·refine Y1 4 1 h rfl ?_
    refine Y0 3 rfl ?_
    obtain ⟨y3,hy3,hF,he3,b4,_,q3,cs4,hp3,hq3,hr8,hc7⟩:=s2.ix hF
    obtain ⟨p8,k8,p9,k9,rfl,s8,s9⟩:=qX hr8
    refine zdxe hp3 hq3 he3 rfl (Y0 3 rfl (zdc 1 (hc7.below h.below) rfl (Y1 4 0 h rfl ?_)))
    refine Y0 4 rfl (qaR (t:=82) hF rfl ?_ ?_)<;>intro hF
    ·refine Y1 4 1 h rfl ?_
     refine Y0 3 rfl ?_
     obtain ⟨y4,hy4,hF,he4,b5,_,q4,cs5,hp4,hq4,hr9,hc8⟩:=s2.ix hF
     obtain ⟨p10,k10,p11,k11,rfl,s10,s11⟩:=qX hr9
     refine zdxe hp4 hq4 he4 rfl (Y0 3 rfl (zdc 2 (hc8.below h.below) rfl (Y1 4 0 h rfl ?_)))
     refine Y0 3 rfl (dN h fun w8 h=>qh rfl hF ?_ ?_)<;>intro hF
     ·refine X0 4 rfl ?_
      obtain rfl:=qb hF;replace hF:=hK2
      obtain rfl:=qb hF;replace hF:=hK1
      exact rb h hF rfl
     exact X0 7 rfl (rK ⟨_,hF,rfl,h⟩ rfl)
    exact Y0 10 rfl (dN h fun w9 h=>qb9 rfl rfl (X0 7 rfl (rK ⟨_,hF,rfl,h⟩ rfl)))
   exact Y0 21 rfl (dN h fun w10 h=>qb9 rfl rfl (X0 7 rfl (rK ⟨_,hF,rfl,h⟩ rfl)))
  refine qr rfl ?_
  obtain rfl:=qb hF;replace hF:=hK2
  refine X0 6 rfl ?_
  replace h:=h.pick [1] rfl
  exact rK ⟨_,hF,rfl,h⟩ rfl
 refine qr rfl ?_
 obtain rfl:=qb hF;replace hF:=hK1
 refine X1 3 0 h rfl (zcL h hF (qog (h.old ha1)) rfl fun r5 w11 S4 p12 k12 h hF=>X1 14 1 h rfl (qh rfl hF ?_ ?_))<;>intro hF
 ·refine X0 5 rfl ?_
  obtain ⟨o3,hF,hK3⟩:=qc hF
  refine ql ?_
  replace h:=h.pick [1] rfl
  refine rL (fun m e w'=>∃ (i3:Int),qeN a_0 m i3=some o3∧e=[(1,.pointer (some ⟨bb1,0,none⟩)),(3,.int .i64 r2),(9,.int .i64 i3)]∧SH w w' [Ch.box bb1 (qdt a_0 p1 p2 p3 k1 k2 k3) 166]) n ⟨_,hF,rfl,h⟩ rfl ?_
  rintro m3 e3 w12 ⟨i3,hF,rfl,h⟩
  rcases m3 with _|m3
  ·cases hF
  refine X1 9 0 h rfl (qh rfl hF ?_ ?_)<;>intro hF
  ·refine X1 8 0 h rfl ?_
   obtain ⟨y5,hy5,hF,he5,b6,_,q5,cs6,hp5,hq5,rfl,hc12⟩:=s3.ix hF
   refine zxe hp5 hq5 he5 rfl (zc 0 (hc12.below h.below) rfl (zcB h hF qZ rfl fun r6 w13 h hF=>X0 2 rfl (qh rfl hF ?_ ?_)))<;>intro hF
   ·refine X0 4 rfl ?_
    obtain rfl:=qb hF;replace hF:=hK3
    exact rb h hF rfl
   exact X0 7 rfl (rK ⟨_,hF,rfl,h⟩ rfl)
  refine qr rfl ?_
  obtain rfl:=qb hF;replace hF:=hK3
  refine X0 5 rfl (qi (t:=115) hF rfl ?_ ?_)<;>intro hF
  ·refine X2 17 0 0 h rfl ?_
   obtain ⟨y6,hx1,hF⟩:=qc hF
   obtain ⟨g1,hx1⟩:=qqh hx1
   refine r_v (qwv g1 rfl rfl) rfl ?_
   rw [hx1]
   exact X0 5 rfl (rb h hF rfl)
  exact X0 13 rfl (rb h hF rfl)
 refine X0 5 rfl (qh rfl hF ?_ ?_)<;>intro hF
 ·refine qcA (rD (zd3 rfl (qaR (t:=131) hF rfl ?_ ?_)))<;>intro hF
  ·refine Y0 3 rfl ?_
   obtain ⟨y7,hy6,hF,he6,b7,_,q6,cs7,hp6,hq6,rfl,hc15⟩:=(h.sl 0 rfl).1.ix hF
   refine zdx hp6 hq6 ⟨he6.1,qR he6.2.1 (h.sl 0 rfl).2⟩ rfl (Y0 1 rfl (zdc 0 hc15 rfl (Y0 4 rfl (qaR (t:=137) hF rfl ?_ ?_))))<;>intro hF
   ·refine Y0 3 rfl ?_
    obtain ⟨y8,hy7,hF,he7,b8,_,q7,cs8,hp7,hq7,rfl,hc16⟩:=(h.sl 0 rfl).1.ix hF
    refine zdx hp7 hq7 ⟨he7.1,qR he7.2.1 (h.sl 0 rfl).2⟩ rfl (Y0 1 rfl (zdc 0 hc16 rfl (Y0 5 rfl ?_)))
    obtain ⟨y9,hy8,hF,he8,b9,_,q8,cs9,hp8,hq8,rfl,hc17⟩:=(h.sl 0 rfl).1.ix hF
    refine zdx hp8 hq8 ⟨he8.1,qR he8.2.1 (h.sl 0 rfl).2⟩ rfl (Y0 1 rfl (zdc 0 hc17 rfl (Y0 6 rfl (qaR (t:=148) hF rfl ?_ ?_))))<;>intro hF
    ·refine Y1 4 1 h rfl ?_
     exact Y0 6 rfl (dN h fun w14 h=>rb h hF rfl)
    exact Y0 6 rfl (dN h fun w15 h=>rb h hF rfl)
   exact Y0 17 rfl (dN h fun w16 h=>rb h hF rfl)
  exact Y0 23 rfl (dN h fun w17 h=>rb h hF rfl)
 refine X0 5 rfl (qh rfl hF ?_ ?_)<;>intro hF
 ·refine X0 5 rfl (qi (t:=158) hF rfl ?_ ?_)<;>intro hF
  ·refine X0 3 rfl ?_
   obtain ⟨y10,hy9,hF,he9,b10,_,q9,cs10,hp9,hq9,rfl,hc19⟩:=(h.sl 0 rfl).1.ix hF
   refine zx hp9 hq9 ⟨he9.1,qR he9.2.1 (h.sl 0 rfl).2⟩ rfl (X0 1 rfl (zc 0 hc19 rfl (X0 4 rfl (qi (t:=164) hF rfl ?_ ?_))))<;>intro hF
   ·refine X0 3 rfl ?_
    obtain ⟨y11,hy10,hF,he10,b11,_,q10,cs11,hp10,hq10,rfl,hc20⟩:=(h.sl 0 rfl).1.ix hF
    refine zx hp10 hq10 ⟨he10.1,qR he10.2.1 (h.sl 0 rfl).2⟩ rfl (X0 1 rfl (zc 0 hc20 rfl (X0 4 rfl (qi (t:=170) hF rfl ?_ ?_))))<;>intro hF
    ·refine X0 3 rfl ?_
     obtain ⟨y12,hy11,hF,he11,b12,_,q11,cs12,hp11,hq11,rfl,hc21⟩:=(h.sl 0 rfl).1.ix hF
     refine zx hp11 hq11 ⟨he11.1,qR he11.2.1 (h.sl 0 rfl).2⟩ rfl (X0 1 rfl (zc 0 hc21 rfl (X0 4 rfl (qi (t:=176) hF rfl ?_ ?_))))<;>intro hF
     ·exact X1 11 1 h rfl (rb h hF rfl)
     exact X0 7 rfl (rb h hF rfl)
    exact X0 13 rfl (rb h hF rfl)
   exact X0 19 rfl (rb h hF rfl)
  exact X0 25 rfl (rb h hF rfl)
 exact X0 6 rfl (rb h hF rfl)
def qc8 (l:qp) (i1:Int):Nat→Int→Option (Flow Bool Int)
 | 0,_=>none
 | n+1,i2 =>
  bif decide (i2<i1) then
   (idx l.Ap i2).bind fun y2 =>
   (idx l.Ap i1).bind fun y3 =>
   bif (y2.Av.toList==y3.Av.toList) then some (.ret false) else
   qc8 l i1 n (W64 (i2+1))
  else
   some (.nxt i2)
def qdb (l:qp):Nat→Int→Option (Flow Bool Int)
 | 0,_=>none
 | n+1,i1 =>
  bif decide (i1<(l.Ap.length:Int)) then
   (idx l.Ap i1).bind fun y1 =>
   (qkc n y1).bind fun r1 =>
   bif (!r1) then some (.ret false) else
   (qc8 l i1 n 0).bind fun o=>match o with
   | .ret r=>some (.ret r)
   | .nxt _ =>
    qdb l n (W64 (i1+1))
  else
   some (.nxt i1)
def qhP (n:Nat) (l:qp):Option Bool :=
 (qdb l n 0).bind fun o=>match o with
 | .ret r=>some r
 | .nxt _ =>
  some (decide ((l.Ap.length:Int)≤8))
theorem qnb {l:qp} (ha1:GoT.R w (old w) l cs1) {r:Bool} (hF:qhP n l=some r):RetV Tryz.prog 163 [GoT.v qp cs1] w r:=by
 obtain ⟨p1,k1,rfl,s1⟩:=qbi ha1
 refine zV 41 Tryz.func163 rfl fun h=>zSR (qt h rfl rfl fun w1 bb1 h=>X0 7 rfl ?_)
 obtain ⟨o1,hF,hK1⟩:=qc hF
 refine ql (rL (fun m e w'=>∃ (i1:Int),qdb l m i1=some o1∧e=[(1,.pointer (some ⟨bb1,0,none⟩)),(3,.int .i64 i1)]∧SH w w' [Ch.box bb1 [.slice p1 l.Ap.length k1] 43]) n ⟨_,hF,rfl,h⟩ rfl ?_)
 rintro m1 e1 w2 ⟨i1,hF,rfl,h⟩
 rcases m1 with _|m1
 ·cases hF
 refine X1 9 0 h rfl (qh rfl hF ?_ ?_)<;>intro hF
 ·refine X1 9 0 h rfl ?_
  obtain ⟨y1,hy1,hF,he1,b1,_,q1,cs2,hp1,hq1,hr1,hc2⟩:=s1.ix hF
  obtain ⟨p2,k2,p3,k3,p4,k4,rfl,s2,s3,s4⟩:=qW hr1
  refine zxe hp1 hq1 he1 rfl (zc 0 (hc2.below h.below) rfl (zcB h hF (qpt (qjo y1 (h.oldS s2) (h.oldS s3) (h.oldS s4))) rfl fun r1 w3 h hF=>X0 2 rfl (qh rfl hF ?_ ?_)))<;>intro hF
  ·refine X0 4 rfl ?_
   obtain rfl:=qb hF;replace hF:=hK1
   exact rb h hF rfl
  refine X0 5 rfl ?_
  obtain ⟨o2,hF,hK2⟩:=qc hF
  refine ql (rL (fun m e w'=>∃ (i2:Int),qc8 l i1 m i2=some o2∧e=[(1,.pointer (some ⟨bb1,0,none⟩)),(3,.int .i64 i1),(4,.int .i64 i2)]∧SH w w' [Ch.box bb1 [.slice p1 l.Ap.length k1] 43]) m1 ⟨_,hF,rfl,h⟩ rfl ?_)
  rintro m2 e2 w4 ⟨i2,hF,rfl,h⟩
  rcases m2 with _|m2
  ·cases hF
  refine X0 7 rfl (qh rfl hF ?_ ?_)<;>intro hF
  ·refine X0 4 rfl (rD (Y1 2 0 h rfl ?_))
   refine zd1 rfl ?_
   obtain ⟨y2,hy2,hF,he2,b2,_,q2,cs3,hp2,hq2,hr3,hc5⟩:=s1.ix hF
   obtain ⟨p5,k5,p6,k6,p7,k7,rfl,s5,s6,s7⟩:=qW hr3
   refine zdxe hp2 hq2 he2 rfl (zd1 rfl (zdc 0 (hc5.below h.below) rfl (Y1 2 0 h rfl ?_)))
   refine zd1 rfl ?_
   obtain ⟨y3,hy3,hF,he3,b3,_,q3,cs4,hp3,hq3,hr4,hc6⟩:=s1.ix hF
   obtain ⟨p8,k8,p9,k9,p10,k10,rfl,s8,s9,s10⟩:=qW hr4
   refine zdxe hp3 hq3 he3 rfl (zd1 rfl (zdc 0 (hc6.below h.below) rfl (zd1 rfl (dN h fun w5 h=>qh rfl hF ?_ ?_))))<;>intro hF
   ·refine X0 4 rfl ?_
    obtain rfl:=qb hF;replace hF:=hK2
    obtain rfl:=qb hF;replace hF:=hK1
    exact rb h hF rfl
   exact X0 7 rfl (rK ⟨_,hF,rfl,h⟩ rfl)
  refine qr rfl ?_
  obtain rfl:=qb hF;replace hF:=hK2
  exact X0 6 rfl (rK ⟨_,hF,rfl,h⟩ rfl)
 refine qr rfl ?_
 obtain rfl:=qb hF;replace hF:=hK1
 exact X1 8 0 h rfl (rb h hF rfl)
def qdD (a_1:qd) (y1:qn):Nat→Int→Option (Flow Bool Int)
 | 0,_=>none
 | n+1,i2 =>
  bif decide (i2<(y1.Aj.length:Int)) then
   (idx y1.Aj i2).bind fun y2 =>
   (qao n y2 0 (W64 ((a_1.Aj.length:Int)-1))).bind fun r1 =>
   bif (!r1) then some (.ret false) else
   qdD a_1 y1 n (W64 (i2+1))
  else
   some (.nxt i2)
def qdJ (a_1:qd):Nat→Int→Option (Flow Bool Int)
 | 0,_=>none
 | n+1,i3 =>
  bif decide (i3<(a_1.Ah.length:Int)) then
   (idx a_1.Ah i3).bind fun y4 =>
   (qao n y4.Bv 1 2).bind fun r3 =>
   bif (!r3) then some (.ret false) else
   (idx a_1.Ah i3).bind fun y5 =>
   (qao n y5.Bx 0 (W64 ((a_1.Aj.length:Int)-1))).bind fun r4 =>
   bif (!r4) then some (.ret false) else
   qdJ a_1 n (W64 (i3+1))
  else
   some (.nxt i3)
def qdK (a_0:qp) (a_1:qd):Nat→Int→Option (Flow Bool Int)
 | 0,_=>none
 | n+1,i1 =>
  bif decide (i1<(a_1.Aa.length:Int)) then
   (idx a_1.Aa i1).bind fun y1 =>
   (
    (qao n y1.Bs 0 (W64 ((a_0.Ap.length:Int)-1))).bind fun r2 =>
    bif (!r2) then some true else
    (idx a_0.Ap y1.Bs).bind fun y3 =>
    some ((y1.Aj.length:Int) != (y3.Az.length:Int))).bind fun b2 =>
   bif b2 then some (.ret false) else
   (qdD a_1 y1 n 0).bind fun o=>match o with
   | .ret r=>some (.ret r)
   | .nxt _ =>
    qdK a_0 a_1 n (W64 (i1+1))
  else
   some (.nxt i1)
def qij (n:Nat) (a_0:qp) (a_1:qd):Option Bool :=
 (qdK a_0 a_1 n 0).bind fun o=>match o with
 | .ret r=>some r
 | .nxt _ =>
  (qdJ a_1 n 0).bind fun o=>match o with
  | .ret r=>some r
  | .nxt _ =>
   some true
theorem qnV {a_0:qp} {a_1:qd} (ha1:GoT.R w (old w) a_0 cs1) (ha2:GoT.R w (old w) a_1 cs2) {r:Bool} (hF:qij n a_0 a_1=some r):RetV Tryz.prog 164 [GoT.v qp cs1,GoT.v qd cs2] w r:=by
 obtain ⟨p1,k1,rfl,s1⟩:=qbi ha1
 obtain ⟨p2,k2,p3,k3,p4,k4,rfl,s2,s3,s4⟩:=qan ha2
 refine zV 90 Tryz.func164 rfl fun h=>zSR (qt h rfl rfl fun w1 bb1 h=>qt h rfl rfl fun w2 bb2 h=>X1 14 0 h rfl ?_)
 obtain ⟨o1,hF,hK1⟩:=qc hF
 refine ql (rL (fun m e w'=>∃ (i1:Int),qdK a_0 a_1 m i1=some o1∧e=[(2,.pointer (some ⟨bb1,0,none⟩)),(3,.pointer (some ⟨bb2,0,none⟩)),(5,.int .i64 (a_1.Aj.length:Int)),(6,.int .i64 i1)]∧SH w w' [Ch.box bb2 (qaz a_1 p2 p3 p4 k2 k3 k4) 47,Ch.box bb1 [.slice p1 a_0.Ap.length k1] 43]) n ⟨_,hF,rfl,h⟩ rfl ?_)
 rintro m1 e1 w3 ⟨i1,hF,rfl,h⟩
 rcases m1 with _|m1
 ·cases hF
 refine X1 9 0 h rfl (qh rfl hF ?_ ?_)<;>intro hF
 ·refine X1 8 0 h rfl ?_
  obtain ⟨y1,hy1,hF,he1,b1,_,q1,cs3,hp1,hq1,hr1,hc2⟩:=s2.ix hF
  obtain ⟨p5,k5,rfl,s5⟩:=qM hr1
  refine zxe hp1 hq1 he1 rfl (zc 0 (hc2.below h.below) rfl (qm qa h rfl rfl rfl fun w4 bb3 h=>zs 0 h rfl fun w5 h=>zNSS ?_))
  obtain ⟨KF1,hKF1,o3,hF,hK3⟩:=bindE hF
  refine qbp (fun e w'=>∃ (b2:Bool),KF1 b2=some o1∧e=[(2,.pointer (some ⟨bb1,0,none⟩)),(3,.pointer (some ⟨bb2,0,none⟩)),(5,.int .i64 (a_1.Aj.length:Int)),(6,.int .i64 i1),(7,.pointer (some ⟨bb3,0,none⟩)),(46,.bool b2)]∧SH w w' [Ch.box bb3 (qiG y1 p5 k5) 168,Ch.box bb2 (qaz a_1 p2 p3 p4 k2 k3 k4) 47,Ch.box bb1 [.slice p1 a_0.Ap.length k1] 43]) ?_ ?_
  ·refine rD (Y1 2 0 h rfl ?_)
   refine Y1 2 2 h rfl ?_
   refine zd2 rfl ?_
   obtain ⟨r2,hr4,hF⟩:=qc hF
   refine qa8 r2 (vsB _) (cB 58 rfl) (fun _ hb=>qZ  hr4) rfl rfl rfl rfl (zd2 rfl (qaR (t:=33) hF rfl ?_ ?_))<;>intro hF
   ·refine Y0 13 rfl (dN h fun w8 h=>?_)
    obtain rfl:=qb hF
    exact rG ⟨_,hK3,rfl,h⟩ rfl
   refine Y1 4 0 h rfl ?_
   refine Y1 6 2 h rfl ?_
   refine Y1 4 0 h rfl ?_
   refine Y0 1 rfl ?_
   obtain ⟨y3,hy3,hF,he3,b4,_,q3,cs5,hp3,hq3,hr5,hc7⟩:=s1.ix hF
   obtain ⟨p6,k6,p7,k7,p8,k8,rfl,s6,s7,s8⟩:=qW hr5
   refine zdxe hp3 hq3 he3 rfl (Y0 3 rfl (zdc 2 (hc7.below h.below) rfl (Y0 5 rfl (dN h fun w9 h=>?_))))
   obtain rfl:=qb hF
   exact rG ⟨_,hK3,rfl,h⟩ rfl
  rintro e3 w10 ⟨b2,hF,rfl,h⟩
  subst hKF1
  refine qh rfl hF ?_ ?_<;>intro hF
  ·refine X0 4 rfl ?_
   obtain rfl:=qb hF;replace hF:=hK1
   exact rb h hF rfl
  refine X0 5 rfl ?_
  obtain ⟨o2,hF,hK2⟩:=qc hF
  refine ql (rL (fun m e w'=>∃ (i2:Int),qdD a_1 y1 m i2=some o2∧e=[(2,.pointer (some ⟨bb1,0,none⟩)),(3,.pointer (some ⟨bb2,0,none⟩)),(5,.int .i64 (a_1.Aj.length:Int)),(6,.int .i64 i1),(7,.pointer (some ⟨bb3,0,none⟩)),(8,.int .i64 i2)]∧SH w w' [Ch.box bb3 (qiG y1 p5 k5) 168,Ch.box bb2 (qaz a_1 p2 p3 p4 k2 k3 k4) 47,Ch.box bb1 [.slice p1 a_0.Ap.length k1] 43]) m1 ⟨_,hF,rfl,h⟩ rfl ?_)
  rintro m2 e2 w6 ⟨i2,hF,rfl,h⟩
  rcases m2 with _|m2
  ·cases hF
  refine X1 9 0 h rfl (qh rfl hF ?_ ?_)<;>intro hF
  ·refine X1 8 0 h rfl ?_
   obtain ⟨y2,hy2,hF,he2,b3,_,q2,cs4,hp2,hq2,rfl,hc5⟩:=s5.ix hF
   refine zxe hp2 hq2 he2 rfl (zc 0 (hc5.below h.below) rfl (zp2 rfl (zcB h hF qZ rfl fun r1 w7 h hF=>X0 2 rfl (qh rfl hF ?_ ?_))))<;>intro hF
   ·refine X0 4 rfl ?_
    obtain rfl:=qb hF;replace hF:=hK2
    obtain rfl:=qb hF;replace hF:=hK1
    exact rb h hF rfl
   exact X0 7 rfl (rK ⟨_,hF,rfl,h⟩ rfl)
  refine qr rfl ?_
  obtain rfl:=qb hF;replace hF:=hK2
  refine X0 6 rfl ?_
  replace h:=h.pick [1,2] rfl
  exact rK ⟨_,hF,rfl,h⟩ rfl
 refine qr rfl ?_
 obtain rfl:=qb hF;replace hF:=hK1
 refine X0 5 rfl ?_
 obtain ⟨o4,hF,hK4⟩:=qc hF
 refine ql ?_
 replace h:=h.pick [0] rfl
 refine rL (fun m e w'=>∃ (i3:Int),qdJ a_1 m i3=some o4∧e=[(3,.pointer (some ⟨bb2,0,none⟩)),(5,.int .i64 (a_1.Aj.length:Int)),(9,.int .i64 i3)]∧SH w w' [Ch.box bb2 (qaz a_1 p2 p3 p4 k2 k3 k4) 47]) n ⟨_,hF,rfl,h⟩ rfl ?_
 rintro m3 e4 w11 ⟨i3,hF,rfl,h⟩
 rcases m3 with _|m3
 ·cases hF
 refine X1 9 0 h rfl (qh rfl hF ?_ ?_)<;>intro hF
 ·refine X1 8 0 h rfl ?_
  obtain ⟨y4,hy4,hF,he4,b5,_,q4,cs6,hp4,hq4,hr6,hc9⟩:=s4.ix hF
  obtain rfl:=qa1 hr6
  refine zxe hp4 hq4 he4 rfl (zp1 rfl (zc 1 (hc9.below h.below) rfl (zcB h hF qZ rfl fun r3 w12 h hF=>zp2 rfl (qi (t:=78) hF rfl ?_ ?_))))<;>intro hF
  ·refine X0 12 rfl (qbO rfl rfl (X0 4 rfl ?_))
   obtain rfl:=qb hF;replace hF:=hK4
   exact rb h hF rfl
  refine X1 7 0 h rfl ?_
  obtain ⟨y5,hy5,hF,he5,b6,_,q5,cs7,hp5,hq5,hr8,hc10⟩:=s4.ix hF
  obtain rfl:=qa1 hr8
  refine zxe hp5 hq5 he5 rfl (X0 3 rfl (zc 2 (hc10.below h.below) rfl (X0 5 rfl (zcB h hF qZ rfl fun r4 w13 h hF=>X0 4 rfl (qh rfl hF ?_ ?_)))))<;>intro hF
  ·refine X0 4 rfl ?_
   obtain rfl:=qb hF;replace hF:=hK4
   exact rb h hF rfl
  exact X0 7 rfl (rK ⟨_,hF,rfl,h⟩ rfl)
 refine qr rfl ?_
 obtain rfl:=qb hF;replace hF:=hK4
 exact X0 4 rfl (rb h hF rfl)
def qdL (list:(List ByteArray)) (i1:Int):Nat→Int→Option (Flow Bool Int)
 | 0,_=>none
 | n+1,i2 =>
  bif decide (i2<i1) then
   (idx list i2).bind fun y2 =>
   (idx list i1).bind fun y3 =>
   bif (y2.toList==y3.toList) then some (.ret false) else
   qdL list i1 n (W64 (i2+1))
  else
   some (.nxt i2)
def qdF (list:(List ByteArray)):Nat→Int→Option (Flow Bool Int)
 | 0,_=>none
 | n+1,i1 =>
  bif decide (i1<(list.length:Int)) then
   (idx list i1).bind fun y1 =>
   (qfe n y1).bind fun r1 =>
   bif (!r1) then some (.ret false) else
   (qdL list i1 n 0).bind fun o=>match o with
   | .ret r=>some (.ret r)
   | .nxt _ =>
    qdF list n (W64 (i1+1))
  else
   some (.nxt i1)
def qfF (n:Nat) (list:(List ByteArray)):Option Bool :=
 (qdF list n 0).bind fun o=>match o with
 | .ret r=>some r
 | .nxt _ =>
  some true
theorem qh4 {list:(List ByteArray)} (ha1:GoT.R w (old w) list cs1) {r:Bool} (hF:qfF n list=some r):RetV Tryz.prog 165 [GoT.v (List ByteArray) cs1] w r:=by
 obtain ⟨p1,k1,rfl,s1⟩:=ha1
 refine zV 31 Tryz.func165 rfl fun h=>X0 9 rfl ?_
 obtain ⟨o1,hF,hK1⟩:=qc hF
 refine ql (rL (fun m e w'=>∃ (i1:Int),qdF list m i1=some o1∧e=[(0,.slice p1 list.length k1),(3,.int .i64 i1)]∧SH w w' []) n ⟨_,hF,rfl,h⟩ rfl ?_)
 rintro m1 e1 w1 ⟨i1,hF,rfl,h⟩
 rcases m1 with _|m1
 ·cases hF
 refine X0 8 rfl (qh rfl hF ?_ ?_)<;>intro hF
 ·refine X0 8 rfl ?_
  obtain ⟨y1,hy1,hF,he1,b1,_,q1,cs2,hp1,hq1,rfl,hc2⟩:=s1.ix hF
  refine zxe hp1 hq1 he1 rfl (zc 0 (hc2.below h.below) rfl (zcB h hF qgV rfl fun r1 w2 h hF=>X0 2 rfl (qh rfl hF ?_ ?_)))<;>intro hF
  ·refine X0 4 rfl ?_
   obtain rfl:=qb hF;replace hF:=hK1
   exact rb h hF rfl
  refine X0 5 rfl ?_
  obtain ⟨o2,hF,hK2⟩:=qc hF
  refine ql (rL (fun m e w'=>∃ (i2:Int),qdL list i1 m i2=some o2∧e=[(0,.slice p1 list.length k1),(3,.int .i64 i1),(4,.int .i64 i2)]∧SH w w' []) m1 ⟨_,hF,rfl,h⟩ rfl ?_)
  rintro m2 e2 w3 ⟨i2,hF,rfl,h⟩
  rcases m2 with _|m2
  ·cases hF
  refine X0 7 rfl (qh rfl hF ?_ ?_)<;>intro hF
  ·refine X0 4 rfl (rD (zd2 rfl ?_))
   obtain ⟨y2,hy2,hF,he2,b2,_,q2,cs3,hp2,hq2,rfl,hc5⟩:=s1.ix hF
   refine zdxe hp2 hq2 he2 rfl (zdc 0 (hc5.below h.below) rfl (zd2 rfl ?_))
   obtain ⟨y3,hy3,hF,he3,b3,_,q3,cs4,hp3,hq3,rfl,hc6⟩:=s1.ix hF
   refine zdxe hp3 hq3 he3 rfl (zdc 0 (hc6.below h.below) rfl (zd1 rfl (dN h fun w4 h=>qh rfl hF ?_ ?_)))<;>intro hF
   ·refine X0 4 rfl ?_
    obtain rfl:=qb hF;replace hF:=hK2
    obtain rfl:=qb hF;replace hF:=hK1
    exact rb h hF rfl
   exact X0 7 rfl (rK ⟨_,hF,rfl,h⟩ rfl)
  refine qr rfl ?_
  obtain rfl:=qb hF;replace hF:=hK2
  exact X0 6 rfl (rK ⟨_,hF,rfl,h⟩ rfl)
 refine qr rfl ?_
 obtain rfl:=qb hF;replace hF:=hK1
 exact X0 4 rfl (rb h hF rfl)
def qdM (x5:(List Int)) (x7:(List Int)):Nat→Int→Option (Flow Bool Int)
 | 0,_=>none
 | n+1,i5 =>
  bif decide (i5<(x5.length:Int)) then
   (idx x7 i5).bind fun y11 =>
   bif (y11 != 1) then some (.ret false) else
   qdM x5 x7 n (W64 (i5+1))
  else
   some (.nxt i5)
def qb2 (a_1:qd):Nat→(List Int)→Int→Option ((List Int) × Int)
 | 0,_,_=>none
 | n+1,x7,i4 =>
  bif decide (i4<(a_1.Ah.length:Int)) then
   (idx a_1.Ah i4).bind fun y7 =>
   bif (y7.Bv==1) then
    (idx a_1.Ah i4).bind fun y8 =>
    (idx x7 y8.Bx).bind fun y9 =>
    (idx x7 y8.Bx).bind fun _ =>
    qb2 a_1 n (setS x7 y8.Bx (W64 (y9+1))) (W64 (i4+1))
   else
    qb2 a_1 n x7 (W64 (i4+1))
  else
   some (x7,i4)
def qcT (a_1:qd):Nat→(List Int)→Int→Option ((List Int) × Int)
 | 0,_,_=>none
 | n+1,x6,i3 =>
  bif decide (i3<(a_1.Aa.length:Int)) then
   (idx a_1.Aa i3).bind fun y3 =>
   (idx y3.Aj (W64 ((y3.Aj.length:Int)-1))).bind fun y4 =>
   (idx x6 y4).bind fun y5 =>
   (idx x6 y4).bind fun _ =>
   qcT a_1 n (setS x6 y4 (W64 (y5+1))) (W64 (i3+1))
  else
   some (x6,i3)
def qcR (a_1:qd):Nat→(List ByteArray)→Int→Option ((List ByteArray) × Int)
 | 0,_,_=>none
 | n+1,x3,i2 =>
  bif decide (i2<(a_1.Ah.length:Int)) then
   (idx a_1.Ah i2).bind fun y2 =>
   (appS x3 ([y2.Av]:List ByteArray)).bind fun x4 =>
   qcR a_1 n x4 (W64 (i2+1))
  else
   some (x3,i2)
def qcN (a_1:qd):Nat→(List ByteArray)→Int→Option ((List ByteArray) × Int)
 | 0,_,_=>none
 | n+1,x1,i1 =>
  bif decide (i1<(a_1.Aa.length:Int)) then
   (idx a_1.Aa i1).bind fun y1 =>
   (appS x1 ([y1.Av]:List ByteArray)).bind fun x2 =>
   qcN a_1 n x2 (W64 (i1+1))
  else
   some (x1,i1)
def qic (n:Nat) (a_0:qp) (a_1:qd):Option Bool :=
 (
  (qhP n a_0).bind fun r4 =>
  bif (!r4) then some true else
  bif decide ((a_1.Aa.length:Int) > 14) then some true else
  bif decide ((a_1.Aj.length:Int) > 30) then some true else
  bif decide ((a_1.Ah.length:Int) > 8) then some true else
  (qij n a_0 a_1).bind fun r5 =>
  some (!r5)).bind fun b1 =>
 bif b1 then some false else
 (qcN a_1 n ([]:List ByteArray) 0).bind fun o=>match o with
 | (x1,_) =>
  (qcR a_1 n ([]:List ByteArray) 0).bind fun o=>match o with
  | (x3,_) =>
   (
    (qfF n x1).bind fun r1 =>
    bif (!r1) then some true else
    (qfF n x3).bind fun r2 =>
    bif (!r2) then some true else
    (qfF n a_1.Aj).bind fun r3 =>
    some (!r3)).bind fun b4 =>
   bif b4 then some false else
   (mkS (a_1.Aj.length:Int) (0:Int)).bind fun x5 =>
   (qcT a_1 n x5 0).bind fun o=>match o with
   | (x6,_) =>
    (qb2 a_1 n x6 0).bind fun o=>match o with
    | (x7,_) =>
     (qdM x5 x7 n 0).bind fun o=>match o with
     | .ret r=>some r
     | .nxt _ =>
      some true
theorem qnF {a_0:qp} {a_1:qd} (ha1:GoT.R w (old w) a_0 cs1) (ha2:GoT.R w (old w) a_1 cs2) {r:Bool} (hF:qic n a_0 a_1=some r):RetV Tryz.prog 124 [GoT.v qp cs1,GoT.v qd cs2] w r:=by
 obtain ⟨p1,k1,rfl,s1⟩:=qbi ha1
 obtain ⟨p2,k2,p3,k3,p4,k4,rfl,s2,s3,s4⟩:=qan ha2
 refine zV 153 Tryz.func124 rfl fun h=>zSR (qt h rfl rfl fun w1 bb1 h=>qt h rfl rfl fun w2 bb2 h=>X0 4 rfl ?_)
 obtain ⟨KF2,hKF2,o7,hF,hK7⟩:=bindE hF
 refine qbp (fun e w'=>∃ (b1:Bool),KF2 b1=some r∧e=[(3,.pointer (some ⟨bb2,0,none⟩)),(40,.bool b1)]∧SH w w' [Ch.box bb2 (qaz a_1 p2 p3 p4 k2 k3 k4) 47]) ?_ ?_
 ·refine X1 2 1 h rfl (zcB h hF (qnb (h.old ha1)) rfl fun r4 w21 h hF=>zp2 rfl (qi (t:=17) hF rfl ?_ ?_))<;>intro hF
  ·refine X0 24 rfl ?_
   replace h:=h.pick [0] rfl
   obtain rfl:=qb hF
   exact rG ⟨_,hK7,rfl,h⟩ rfl
  refine X1 10 0 h rfl (qi (t:=23) hF rfl ?_ ?_)<;>intro hF
  ·refine X0 18 rfl ?_
   replace h:=h.pick [0] rfl
   obtain rfl:=qb hF
   exact rG ⟨_,hK7,rfl,h⟩ rfl
  refine X1 10 0 h rfl (qi (t:=29) hF rfl ?_ ?_)<;>intro hF
  ·refine X0 12 rfl ?_
   replace h:=h.pick [0] rfl
   obtain rfl:=qb hF
   exact rG ⟨_,hK7,rfl,h⟩ rfl
  refine X1 10 0 h rfl (qi (t:=35) hF rfl ?_ ?_)<;>intro hF
  ·refine X0 6 rfl ?_
   replace h:=h.pick [0] rfl
   obtain rfl:=qb hF
   exact rG ⟨_,hK7,rfl,h⟩ rfl
  refine X2 5 1 0 h rfl (zcB h hF (qnV (h.old ha1) (h.old ha2)) rfl fun r5 w22 h hF=>X0 4 rfl ?_)
  replace h:=h.pick [0] rfl
  obtain rfl:=qb hF
  exact rG ⟨_,hK7,rfl,h⟩ rfl
 rintro e7 w23 ⟨b1,hF,rfl,h⟩
 subst hKF2
 refine qh rfl hF ?_ ?_<;>intro hF
 ·exact X0 4 rfl (rb h hF rfl)
 refine zKSR (qQ qa [] _ ([]:List ByteArray) h rfl rfl rfl rfl rfl rfl rfl rfl rfl trivial rfl fun w3 p5 S1 h=>X0 7 rfl ?_)
 obtain ⟨o1,hF,hK1⟩:=qc hF
 refine ql (rL (fun m e w'=>∃ (S2:Nat→Prop) (p6:Option Addr) (ln1:Nat) (k5:Nat) (x1:(List ByteArray)) (i1:Int),qcN a_1 m x1 i1=some o1∧e=[(3,.pointer (some ⟨bb2,0,none⟩)),(5,.slice p6 ln1 k5),(6,.int .i64 i1)]∧SH w w' [Ch.own S2 (x1:List ByteArray) [.slice p6 ln1 k5],Ch.box bb2 (qaz a_1 p2 p3 p4 k2 k3 k4) 47]) n ⟨_,_,_,_,_,_,hF,rfl,h⟩ rfl ?_)
 rintro m1 e1 w4 ⟨S2,p6,ln1,k5,x1,i1,hF,rfl,h⟩
 obtain rfl:=(h.sl 0 rfl).2
 rcases m1 with _|m1
 ·cases hF
 refine X1 9 1 h rfl (qh rfl hF ?_ ?_)<;>intro hF
 ·refine X1 8 1 h rfl ?_
  obtain ⟨y1,hy1,hF,he1,b2,_,q1,cs3,hp1,hq1,hr1,hc3⟩:=s2.ix hF
  obtain ⟨p7,k6,rfl,s5⟩:=qM hr1
  refine zxe hp1 hq1 he1 rfl (zp1 rfl (zc 0 (hc3.below h.below) rfl (qQ qa [.tmp 55] _ ([y1.Av]:List ByteArray) h rfl rfl rfl rfl rfl rfl rfl rfl rfl ⟨rfl,trivial⟩ rfl fun w5 p8 S3 h=>?_)))
  obtain ⟨x2,hx1,hF⟩:=qc hF
  obtain ⟨g1,hx1⟩:=qar hx1
  refine qcD qa 1 h rfl (h.sl 0 rfl).1 (h.sl 0 rfl).2 rfl rfl rfl rfl rfl rfl rfl rfl rfl g1 hx1 rfl fun w6 p9 k7 S4 h=>X0 8 rfl ?_
  replace h:=h.pick [1,2] rfl
  exact rK ⟨_,_,_,_,_,_,hF,rfl,h⟩ rfl
 refine qr rfl ?_
 obtain rfl:=qb hF;replace hF:=hK1
 refine zSR (qQ qa [] _ ([]:List ByteArray) h rfl rfl rfl rfl rfl rfl rfl rfl rfl trivial rfl fun w7 p10 S5 h=>X0 7 rfl ?_)
 obtain ⟨o2,hF,hK2⟩:=qc hF
 refine ql (rL (fun m e w'=>∃ (S6:Nat→Prop) (p11:Option Addr) (ln2:Nat) (k8:Nat) (x3:(List ByteArray)) (i2:Int),qcR a_1 m x3 i2=some o2∧e=[(3,.pointer (some ⟨bb2,0,none⟩)),(5,.slice p6 x1.length k5),(7,.slice p11 ln2 k8),(8,.int .i64 i2)]∧SH w w' [Ch.own S6 (x3:List ByteArray) [.slice p11 ln2 k8],Ch.own S2 (x1:List ByteArray) [.slice p6 x1.length k5],Ch.box bb2 (qaz a_1 p2 p3 p4 k2 k3 k4) 47]) n ⟨_,_,_,_,_,_,hF,rfl,h⟩ rfl ?_)
 rintro m2 e2 w8 ⟨S6,p11,ln2,k8,x3,i2,hF,rfl,h⟩
 obtain rfl:=(h.sl 0 rfl).2
 rcases m2 with _|m2
 ·cases hF
 refine X1 9 2 h rfl (qh rfl hF ?_ ?_)<;>intro hF
 ·refine X1 8 2 h rfl ?_
  obtain ⟨y2,hy2,hF,he2,b3,_,q2,cs4,hp2,hq2,hr2,hc5⟩:=s4.ix hF
  obtain rfl:=qa1 hr2
  refine zxe hp2 hq2 he2 rfl (zp1 rfl (zc 0 (hc5.below h.below) rfl (qQ qa [.tmp 72] _ ([y2.Av]:List ByteArray) h rfl rfl rfl rfl rfl rfl rfl rfl rfl ⟨rfl,trivial⟩ rfl fun w9 p12 S7 h=>?_)))
  obtain ⟨x4,hx2,hF⟩:=qc hF
  obtain ⟨g2,hx2⟩:=qar hx2
  refine qcD qa 1 h rfl (h.sl 0 rfl).1 (h.sl 0 rfl).2 rfl rfl rfl rfl rfl rfl rfl rfl rfl g2 hx2 rfl fun w10 p13 k9 S8 h=>X0 8 rfl ?_
  replace h:=h.pick [1,2,3] rfl
  exact rK ⟨_,_,_,_,_,_,hF,rfl,h⟩ rfl
 refine qr rfl ?_
 obtain rfl:=qb hF;replace hF:=hK2
 refine zSS ?_
 obtain ⟨KF1,hKF1,o6,hF,hK6⟩:=bindE hF
 refine qbp (fun e w'=>∃ (b4:Bool),KF1 b4=some r∧e=[(3,.pointer (some ⟨bb2,0,none⟩)),(88,.bool b4)]∧SH w w' [Ch.box bb2 (qaz a_1 p2 p3 p4 k2 k3 k4) 47]) ?_ ?_
 ·refine X0 2 rfl (zcB h hF (qh4 (h.own 1 rfl)) rfl fun r1 w17 h hF=>zp2 rfl (qi (t:=78) hF rfl ?_ ?_))<;>intro hF
  ·refine X0 11 rfl ?_
   replace h:=h.pick [2] rfl
   obtain rfl:=qb hF
   exact rG ⟨_,hK6,rfl,h⟩ rfl
  refine X0 3 rfl (zcB h hF (qh4 (h.own 0 rfl)) rfl fun r2 w18 h hF=>X0 4 rfl (qi (t:=83) hF rfl ?_ ?_))<;>intro hF
  ·refine X0 6 rfl ?_
   replace h:=h.pick [2] rfl
   obtain rfl:=qb hF
   exact rG ⟨_,hK6,rfl,h⟩ rfl
  refine X1 5 2 h rfl (zcB h hF (qh4 ⟨_,_,rfl,(h.oldS s3)⟩) rfl fun r3 w19 h hF=>X0 4 rfl ?_)
  replace h:=h.pick [2] rfl
  obtain rfl:=qb hF
  exact rG ⟨_,hK6,rfl,h⟩ rfl
 rintro e6 w20 ⟨b4,hF,rfl,h⟩
 subst hKF1
 refine qh rfl hF ?_ ?_<;>intro hF
 ·exact X0 4 rfl (rb h hF rfl)
 refine X1 6 0 h rfl ?_
 obtain ⟨x5,hx3,hF⟩:=qc hF
 obtain ⟨g3,g4,hx3⟩:=qL hx3
 refine qab qa Int h rfl rfl rfl rfl rfl rfl rfl rfl rfl g3 g4 hx3 rfl fun w11 S9 p14 h=>X0 7 rfl ?_
 obtain ⟨o3,hF,hK3⟩:=qc hF
 refine ql (rL (fun m e w'=>∃ (x6:(List Int)) (i3:Int),qcT a_1 m x6 i3=some o3∧e=[(3,.pointer (some ⟨bb2,0,none⟩)),(9,.slice p14 x5.length x5.length),(10,.int .i64 i3)]∧SH w w' [Ch.own S9 (x6:List Int) [.slice p14 x5.length x5.length],Ch.box bb2 (qaz a_1 p2 p3 p4 k2 k3 k4) 47]) n ⟨_,_,hF,rfl,h⟩ rfl ?_)
 rintro m3 e3 w12 ⟨x6,i3,hF,rfl,h⟩
 rcases m3 with _|m3
 ·cases hF
 refine X1 9 1 h rfl (qh rfl hF ?_ ?_)<;>intro hF
 ·refine X1 8 1 h rfl ?_
  obtain ⟨y3,hy3,hF,he3,b5,_,q3,cs5,hp3,hq3,hr3,hc8⟩:=s2.ix hF
  obtain ⟨p15,k10,rfl,s6⟩:=qM hr3
  refine zxe hp3 hq3 he3 rfl (zp1 rfl (zc 2 (hc8.below h.below) rfl (X0 8 rfl ?_)))
  obtain ⟨y4,hy4,hF,he4,b6,_,q4,cs6,hp4,hq4,rfl,hc9⟩:=s6.ix hF
  refine zxe hp4 hq4 he4 rfl (zc 0 (hc9.below h.below) rfl ?_)
  obtain ⟨y5,hy5,hF,he5,b7,_,q5,cs7,hp5,hq5,rfl,hc10⟩:=(h.sl 0 rfl).1.ix hF
  refine zx hp5 hq5 ⟨he5.1,qR he5.2.1 (h.sl 0 rfl).2⟩ rfl (zc 0 hc10 rfl (zp1 rfl ?_))
  obtain ⟨y6,hy6,hF,he6,b8,_,q6,cs8,hp6,hq6,rfl,hc11⟩:=(h.sl 0 rfl).1.ix hF
  exact zx hp6 hq6 ⟨he6.1,qR he6.2.1 (h.sl 0 rfl).2⟩ rfl (qbh qa 0 0 (W64 (y5+1)) h rfl hy6 hp6 hq6 rfl hc11 rfl rfl rfl rfl rfl rfl rfl fun w13 h=>X0 7 rfl (rK ⟨_,_,hF,rfl,h⟩ rfl))
 refine qr rfl ?_
 obtain rfl:=qb hF;replace hF:=hK3
 refine X0 5 rfl ?_
 obtain ⟨o4,hF,hK4⟩:=qc hF
 refine ql (rL (fun m e w'=>∃ (x7:(List Int)) (i4:Int),qb2 a_1 m x7 i4=some o4∧e=[(3,.pointer (some ⟨bb2,0,none⟩)),(9,.slice p14 x5.length x5.length),(12,.int .i64 i4)]∧SH w w' [Ch.own S9 (x7:List Int) [.slice p14 x5.length x5.length],Ch.box bb2 (qaz a_1 p2 p3 p4 k2 k3 k4) 47]) n ⟨_,_,hF,rfl,h⟩ rfl ?_)
 rintro m4 e4 w14 ⟨x7,i4,hF,rfl,h⟩
 rcases m4 with _|m4
 ·cases hF
 refine X1 9 1 h rfl (qh rfl hF ?_ ?_)<;>intro hF
 ·refine X1 8 1 h rfl ?_
  obtain ⟨y7,hy7,hF,he7,b9,_,q7,cs9,hp7,hq7,hr7,hc13⟩:=s4.ix hF
  obtain rfl:=qa1 hr7
  refine zxe hp7 hq7 he7 rfl (zp1 rfl (zc 1 (hc13.below h.below) rfl (X0 2 rfl (qh rfl hF ?_ ?_))))<;>intro hF
  ·refine X1 5 1 h rfl ?_
   obtain ⟨y8,hy8,hF,he8,b10,_,q8,cs10,hp8,hq8,hr8,hc15⟩:=s4.ix hF
   obtain rfl:=qa1 hr8
   refine zxe hp8 hq8 he8 rfl (zp1 rfl (zc 2 (hc15.below h.below) rfl ?_))
   obtain ⟨y9,hy9,hF,he9,b11,_,q9,cs11,hp9,hq9,rfl,hc16⟩:=(h.sl 0 rfl).1.ix hF
   refine zx hp9 hq9 ⟨he9.1,qR he9.2.1 (h.sl 0 rfl).2⟩ rfl (zc 0 hc16 rfl (zp1 rfl ?_))
   obtain ⟨y10,hy10,hF,he10,b12,_,q10,cs12,hp10,hq10,rfl,hc17⟩:=(h.sl 0 rfl).1.ix hF
   exact zx hp10 hq10 ⟨he10.1,qR he10.2.1 (h.sl 0 rfl).2⟩ rfl (qbh qa 0 0 (W64 (y9+1)) h rfl hy10 hp10 hq10 rfl hc17 rfl rfl rfl rfl rfl rfl rfl fun w15 h=>X0 7 rfl (rK ⟨_,_,hF,rfl,h⟩ rfl))
  exact X0 7 rfl (rK ⟨_,_,hF,rfl,h⟩ rfl)
 refine qr rfl ?_
 obtain rfl:=qb hF;replace hF:=hK4
 refine X0 5 rfl ?_
 obtain ⟨o5,hF,hK5⟩:=qc hF
 refine ql ?_
 replace h:=h.pick [0] rfl
 refine rL (fun m e w'=>∃ (i5:Int),qdM x5 x7 m i5=some o5∧e=[(9,.slice p14 x5.length x5.length),(13,.int .i64 i5)]∧SH w w' [Ch.own S9 (x7:List Int) [.slice p14 x5.length x5.length]]) n ⟨_,hF,rfl,h⟩ rfl ?_
 rintro m5 e5 w16 ⟨i5,hF,rfl,h⟩
 rcases m5 with _|m5
 ·cases hF
 refine X0 8 rfl (qh rfl hF ?_ ?_)<;>intro hF
 ·refine X0 7 rfl ?_
  obtain ⟨y11,hy11,hF,he11,b13,_,q11,cs13,hp11,hq11,rfl,hc19⟩:=(h.sl 0 rfl).1.ix hF
  refine zx hp11 hq11 ⟨he11.1,qR he11.2.1 (h.sl 0 rfl).2⟩ rfl (zc 0 hc19 rfl (X0 2 rfl (qh rfl hF ?_ ?_)))<;>intro hF
  ·refine X0 4 rfl ?_
   obtain rfl:=qb hF;replace hF:=hK5
   exact rb h hF rfl
  exact X0 7 rfl (rK ⟨_,hF,rfl,h⟩ rfl)
 refine qr rfl ?_
 obtain rfl:=qb hF;replace hF:=hK5
 exact X0 4 rfl (rb h hF rfl)
def qeL (a_0:qO):Nat→Int→Option (Flow Bool Int)
 | 0,_=>none
 | n+1,i2 =>
  bif decide (i2<(a_0.Bj.length:Int)) then
   (idx a_0.Bj i2).bind fun y7 =>
   (qao n y7 0 (W64 ((a_0.Ai.length:Int)-1))).bind fun r5 =>
   bif (!r5) then some (.ret false) else
   qeL a_0 n (W64 (i2+1))
  else
   some (.nxt i2)
def qcb (a_0:qO):Nat→Int→Option (Flow Bool Int)
 | 0,_=>none
 | n+1,i1 =>
  bif decide (i1<(a_0.Ai.length:Int)) then
   (
    (idx a_0.Bt i1).bind fun y5 =>
    (qao n y5 0 500).bind fun r3 =>
    bif (!r3) then some true else
    (idx a_0.Bw i1).bind fun y6 =>
    (qao n y6 0 1000).bind fun r4 =>
    some (!r4)).bind fun b2 =>
   bif b2 then some (.ret false) else
   bif (i1==0) then
    (idx a_0.Ai i1).bind fun y1 =>
    bif (y1 != (-1)) then some (.ret false) else
    (idx a_0.Bw i1).bind fun y2 =>
    bif (y2 != 0) then some (.ret false) else
    bif decide (i1 > 0) then
     (idx a_0.Ai i1).bind fun y3 =>
     (qao n y3 0 (W64 (i1-1))).bind fun r1 =>
     bif (!r1) then some (.ret false) else
     qcb a_0 n (W64 (i1+1))
    else
     qcb a_0 n (W64 (i1+1))
   else
    bif decide (i1 > 0) then
     (idx a_0.Ai i1).bind fun y4 =>
     (qao n y4 0 (W64 (i1-1))).bind fun r2 =>
     bif (!r2) then some (.ret false) else
     qcb a_0 n (W64 (i1+1))
    else
     qcb a_0 n (W64 (i1+1))
  else
   some (.nxt i1)
def qkt (n:Nat) (a_0:qO) (a_1:Int):Option Bool :=
 (
  bif decide ((a_0.Ai.length:Int)<1) then some true else
  bif decide ((a_0.Ai.length:Int) > 8) then some true else
  bif ((a_0.Bw.length:Int) != (a_0.Ai.length:Int)) then some true else
  bif ((a_0.Bt.length:Int) != (a_0.Ai.length:Int)) then some true else
  some ((a_0.Bj.length:Int) != a_1)).bind fun b1 =>
 bif b1 then some false else
 (qcb a_0 n 0).bind fun o=>match o with
 | .ret r=>some r
 | .nxt _ =>
  (qeL a_0 n 0).bind fun o=>match o with
  | .ret r=>some r
  | .nxt _ =>
   some true
theorem qpb {a_0:qO} {a_1:Int} (ha1:GoT.R w (old w) a_0 cs1) {r:Bool} (hF:qkt n a_0 a_1=some r):RetV Tryz.prog 125 [GoT.v qO cs1,.int .i64 a_1] w r:=by
 obtain ⟨p1,k1,p2,k2,p3,k3,p4,k4,rfl,s1,s2,s3,s4⟩:=qaB ha1
 refine zV 108 Tryz.func125 rfl fun h=>zSR (qt h rfl rfl fun w1 bb1 h=>X1 11 0 h rfl ?_)
 obtain ⟨KF2,hKF2,o4,hF,hK4⟩:=bindE hF
 refine qbp (fun e w'=>∃ (b1:Bool),KF2 b1=some r∧e=[(2,.pointer (some ⟨bb1,0,none⟩)),(5,.int .i64 (a_0.Ai.length:Int)),(37,.bool b1)]∧SH w w' [Ch.box bb1 (qfK a_0 p1 p2 p3 p4 k1 k2 k3 k4) 186]) ?_ ?_
 ·refine X0 4 rfl (qi (t:=13) hF rfl ?_ ?_)<;>intro hF
  ·refine X0 25 rfl ?_
   obtain rfl:=qb hF
   exact rG ⟨_,hK4,rfl,h⟩ rfl
  refine X0 6 rfl (qi (t:=17) hF rfl ?_ ?_)<;>intro hF
  ·refine X0 21 rfl ?_
   obtain rfl:=qb hF
   exact rG ⟨_,hK4,rfl,h⟩ rfl
  refine X1 12 0 h rfl (qi (t:=24) hF rfl ?_ ?_)<;>intro hF
  ·refine X0 14 rfl ?_
   obtain rfl:=qb hF
   exact rG ⟨_,hK4,rfl,h⟩ rfl
  refine X1 12 0 h rfl (qi (t:=31) hF rfl ?_ ?_)<;>intro hF
  ·refine X0 7 rfl ?_
   obtain rfl:=qb hF
   exact rG ⟨_,hK4,rfl,h⟩ rfl
  refine X1 12 0 h rfl ?_
  obtain rfl:=qb hF
  exact rG ⟨_,hK4,rfl,h⟩ rfl
 rintro e4 w10 ⟨b1,hF,rfl,h⟩
 subst hKF2
 refine qh rfl hF ?_ ?_<;>intro hF
 ·exact X0 4 rfl (rb h hF rfl)
 refine X0 6 rfl ?_
 obtain ⟨o1,hF,hK1⟩:=qc hF
 refine ql (rL (fun m e w'=>∃ (i1:Int),qcb a_0 m i1=some o1∧e=[(2,.pointer (some ⟨bb1,0,none⟩)),(5,.int .i64 (a_0.Ai.length:Int)),(6,.int .i64 i1)]∧SH w w' [Ch.box bb1 (qfK a_0 p1 p2 p3 p4 k1 k2 k3 k4) 186]) n ⟨_,hF,rfl,h⟩ rfl ?_)
 rintro m1 e1 w2 ⟨i1,hF,rfl,h⟩
 rcases m1 with _|m1
 ·cases hF
 refine X0 7 rfl (qh rfl hF ?_ ?_)<;>intro hF
 ·refine X0 5 rfl ?_
  obtain ⟨KF1,hKF1,o2,hF,hK2⟩:=bindE hF
  refine qbp (fun e w'=>∃ (b2:Bool),KF1 b2=some o1∧e=[(2,.pointer (some ⟨bb1,0,none⟩)),(5,.int .i64 (a_0.Ai.length:Int)),(6,.int .i64 i1),(58,.bool b2)]∧SH w w' [Ch.box bb1 (qfK a_0 p1 p2 p3 p4 k1 k2 k3 k4) 186]) ?_ ?_
  ·refine X1 4 0 h rfl ?_
   obtain ⟨y5,hy5,hF,he5,b7,_,q5,cs6,hp5,hq5,rfl,hc10⟩:=s3.ix hF
   refine zxe hp5 hq5 he5 rfl (zc 0 (hc10.below h.below) rfl (zcB h hF qZ rfl fun r3 w5 h hF=>zp2 rfl (qi (t:=50) hF rfl ?_ ?_)))<;>intro hF
   ·refine X0 9 rfl ?_
    obtain rfl:=qb hF
    exact rG ⟨_,hK2,rfl,h⟩ rfl
   refine X1 7 0 h rfl ?_
   obtain ⟨y6,hy6,hF,he6,b8,_,q6,cs7,hp6,hq6,rfl,hc11⟩:=s2.ix hF
   refine zxe hp6 hq6 he6 rfl (X0 1 rfl (zc 0 (hc11.below h.below) rfl (X0 1 rfl (zcB h hF qZ rfl fun r4 w6 h hF=>X0 4 rfl ?_))))
   obtain rfl:=qb hF
   exact rG ⟨_,hK2,rfl,h⟩ rfl
  rintro e2 w7 ⟨b2,hF,rfl,h⟩
  subst hKF1
  refine qh rfl hF ?_ ?_<;>intro hF
  ·refine X0 4 rfl ?_
   obtain rfl:=qb hF;replace hF:=hK1
   exact rb h hF rfl
  refine X0 6 rfl (qi (t:=61) hF rfl ?_ ?_)<;>intro hF
  ·refine X1 7 0 h rfl ?_
   obtain ⟨y1,hy1,hF,he1,b3,_,q1,cs2,hp1,hq1,rfl,hc4⟩:=s1.ix hF
   refine zxe hp1 hq1 he1 rfl (X0 1 rfl (zc 0 (hc4.below h.below) rfl (X0 4 rfl (qi (t:=68) hF rfl ?_ ?_))))<;>intro hF
   ·refine X0 25 rfl (qbO rfl rfl (X0 4 rfl ?_))
    obtain rfl:=qb hF;replace hF:=hK1
    exact rb h hF rfl
   refine X1 7 0 h rfl ?_
   obtain ⟨y2,hy2,hF,he2,b4,_,q2,cs3,hp2,hq2,rfl,hc5⟩:=s2.ix hF
   refine zxe hp2 hq2 he2 rfl (X0 1 rfl (zc 0 (hc5.below h.below) rfl (X0 6 rfl (qi (t:=77) hF rfl ?_ ?_))))<;>intro hF
   ·refine X0 15 rfl (qbO rfl rfl (X0 4 rfl ?_))
    obtain rfl:=qb hF;replace hF:=hK1
    exact rb h hF rfl
   refine X0 6 rfl (qi (t:=80) hF rfl ?_ ?_)<;>intro hF
   ·refine X1 7 0 h rfl ?_
    obtain ⟨y3,hy3,hF,he3,b5,_,q3,cs4,hp3,hq3,rfl,hc6⟩:=s1.ix hF
    refine zxe hp3 hq3 he3 rfl (X0 1 rfl (zc 0 (hc6.below h.below) rfl (X0 5 rfl (zcB h hF qZ rfl fun r1 w3 h hF=>X0 6 rfl (qh rfl hF ?_ ?_)))))<;>intro hF
    ·refine X0 4 rfl ?_
     obtain rfl:=qb hF;replace hF:=hK1
     exact rb h hF rfl
    exact X0 7 rfl (rK ⟨_,hF,rfl,h⟩ rfl)
   exact X0 13 rfl (qb9 rfl rfl (X0 7 rfl (rK ⟨_,hF,rfl,h⟩ rfl)))
  refine X0 22 rfl (qi (t:=80) hF rfl ?_ ?_)<;>intro hF
  ·refine X1 7 0 h rfl ?_
   obtain ⟨y4,hy4,hF,he4,b6,_,q4,cs5,hp4,hq4,rfl,hc8⟩:=s1.ix hF
   refine zxe hp4 hq4 he4 rfl (X0 1 rfl (zc 0 (hc8.below h.below) rfl (X0 5 rfl (zcB h hF qZ rfl fun r2 w4 h hF=>X0 6 rfl (qh rfl hF ?_ ?_)))))<;>intro hF
   ·refine X0 4 rfl ?_
    obtain rfl:=qb hF;replace hF:=hK1
    exact rb h hF rfl
   exact X0 7 rfl (rK ⟨_,hF,rfl,h⟩ rfl)
  exact X0 13 rfl (qb9 rfl rfl (X0 7 rfl (rK ⟨_,hF,rfl,h⟩ rfl)))
 refine qr rfl ?_
 obtain rfl:=qb hF;replace hF:=hK1
 refine X0 5 rfl ?_
 obtain ⟨o3,hF,hK3⟩:=qc hF
 refine ql (rL (fun m e w'=>∃ (i2:Int),qeL a_0 m i2=some o3∧e=[(2,.pointer (some ⟨bb1,0,none⟩)),(5,.int .i64 (a_0.Ai.length:Int)),(7,.int .i64 i2)]∧SH w w' [Ch.box bb1 (qfK a_0 p1 p2 p3 p4 k1 k2 k3 k4) 186]) n ⟨_,hF,rfl,h⟩ rfl ?_)
 rintro m2 e3 w8 ⟨i2,hF,rfl,h⟩
 rcases m2 with _|m2
 ·cases hF
 refine X1 9 0 h rfl (qh rfl hF ?_ ?_)<;>intro hF
 ·refine X1 8 0 h rfl ?_
  obtain ⟨y7,hy7,hF,he7,b9,_,q7,cs8,hp7,hq7,rfl,hc13⟩:=s4.ix hF
  refine zxe hp7 hq7 he7 rfl (zc 0 (hc13.below h.below) rfl (zp2 rfl (zcB h hF qZ rfl fun r5 w9 h hF=>X0 2 rfl (qh rfl hF ?_ ?_))))<;>intro hF
  ·refine X0 4 rfl ?_
   obtain rfl:=qb hF;replace hF:=hK3
   exact rb h hF rfl
  exact X0 7 rfl (rK ⟨_,hF,rfl,h⟩ rfl)
 refine qr rfl ?_
 obtain rfl:=qb hF;replace hF:=hK3
 exact X0 4 rfl (rb h hF rfl)
def qd5 (b:qe):Nat→Int→Option (Flow Bool Int)
 | 0,_=>none
 | n+1,i1 =>
  bif decide (i1<(b.Ac.length:Int)) then
   (idx b.Ac i1).bind fun y1 =>
   (qfB n (⟨b.Ab.Aa,b.Ab.Aj,b.Ab.Ah⟩:qd) i1).bind fun r1 =>
   (qkt n y1 (r1.length:Int)).bind fun r2 =>
   bif (!r2) then some (.ret false) else
   qd5 b n (W64 (i1+1))
  else
   some (.nxt i1)
def qge (n:Nat) (b:qe):Option Bool :=
 (
  (qic n (⟨b.Au.Ap⟩:qp) (⟨b.Ab.Aa,b.Ab.Aj,b.Ab.Ah⟩:qd)).bind fun r3 =>
  bif (!r3) then some true else
  some ((b.Ac.length:Int) != (b.Ab.Aj.length:Int))).bind fun b1 =>
 bif b1 then some false else
 (qd5 b n 0).bind fun o=>match o with
 | .ret r=>some r
 | .nxt _ =>
  some true
theorem qlu {b:qe} (ha1:GoT.R w (old w) b cs1) {r:Bool} (hF:qge n b=some r):RetV Tryz.prog 73 [GoT.v qe cs1] w r:=by
 obtain ⟨p1,k1,p2,k2,p3,k3,p4,k4,p5,k5,rfl,s1,s2,s3,s4,s5⟩:=qT ha1
 refine zV 39 Tryz.func73 rfl fun h=>zSR (qt h rfl rfl fun w1 bb1 h=>X0 4 rfl ?_)
 obtain ⟨KF1,hKF1,o2,hF,hK2⟩:=bindE hF
 refine qbp (fun e w'=>∃ (b1:Bool),KF1 b1=some r∧e=[(1,.pointer (some ⟨bb1,0,none⟩)),(19,.bool b1)]∧SH w w' [Ch.box bb1 (qaG b p1 p2 p3 p4 p5 k1 k2 k3 k4 k5) 50]) ?_ ?_
 ·refine X2 5 0 0 h rfl (zcB h hF (qnF (qdx _ (h.oldS s1)) (qak _ (h.oldS s2) (h.oldS s3) (h.oldS s4))) rfl fun r3 w6 h hF=>zp2 rfl (qi (t:=10) hF rfl ?_ ?_))<;>intro hF
  ·refine X0 10 rfl ?_
   obtain rfl:=qb hF
   exact rG ⟨_,hK2,rfl,h⟩ rfl
  refine X2 18 0 0 h rfl ?_
  obtain rfl:=qb hF
  exact rG ⟨_,hK2,rfl,h⟩ rfl
 rintro e2 w7 ⟨b1,hF,rfl,h⟩
 subst hKF1
 refine qh rfl hF ?_ ?_<;>intro hF
 ·exact X0 4 rfl (rb h hF rfl)
 refine X0 6 rfl ?_
 obtain ⟨o1,hF,hK1⟩:=qc hF
 refine ql (rL (fun m e w'=>∃ (i1:Int),qd5 b m i1=some o1∧e=[(1,.pointer (some ⟨bb1,0,none⟩)),(3,.int .i64 i1)]∧SH w w' [Ch.box bb1 (qaG b p1 p2 p3 p4 p5 k1 k2 k3 k4 k5) 50]) n ⟨_,hF,rfl,h⟩ rfl ?_)
 rintro m1 e1 w2 ⟨i1,hF,rfl,h⟩
 rcases m1 with _|m1
 ·cases hF
 refine X1 9 0 h rfl (qh rfl hF ?_ ?_)<;>intro hF
 ·refine X0 4 rfl (rA [] [0] h rfl fun w3 h=>M1 7 [0,1,2] 0 (h.pick [0] rfl) rfl ?_)
  obtain ⟨y1,hy1,hF,he1,b2,_,q1,cs2,hp1,hq1,hr1,hc3⟩:=s5.ix hF
  obtain ⟨p6,k6,p7,k7,p8,k8,p9,k9,rfl,s6,s7,s8,s9⟩:=qaB hr1
  refine Ae 3 15 hp1 hq1 he1 (h.pick [0] rfl) rfl (Al 4 31 0 hc3 (h.pick [0] rfl) rfl (M1 255 [5,6,7] 0 (h.pick [0] rfl) rfl (Ao 8 511 rfl (zcL h hF (qh2 (qak _ (h.oldS s2) (h.oldS s3) (h.oldS s4))) rfl fun r1 w4 S1 p10 k10 h hF=>G0 1023 [9] (h.pick [1] rfl) rfl (Ao 10 2047 rfl (zcB h hF (qpb (qjr y1 (h.oldS s6) (h.oldS s7) (h.oldS s8) (h.oldS s9))) rfl fun r2 w5 h hF=>G0 4095 [11] (h.pick [1] rfl) rfl (Ad (qh rfl hF ?_ ?_))))))))<;>intro hF
  ·refine X0 4 rfl ?_
   obtain rfl:=qb hF;replace hF:=hK1
   exact rb h hF rfl
  refine X0 7 rfl ?_
  replace h:=h.pick [1] rfl
  exact rK ⟨_,hF,rfl,h⟩ rfl
 refine qr rfl ?_
 obtain rfl:=qb hF;replace hF:=hK1
 exact X0 4 rfl (rb h hF rfl)
def qaF (_:Nat) (x:Int) (low:Int) (high:Int):Option Bool :=
 bif decide (x ≥ low) then some (decide (x≤high)) else
 some false
theorem qas {x:Int} {low:Int} {high:Int}  {r:Bool} (hF:qaF n x low high=some r):RetV Tryz.prog 115 [.int .i64 x,.int .i64 low,.int .i64 high] w r:=by
 refine zV 15 Tryz.func115 rfl fun h=>X0 10 rfl (qi (t:=10) hF rfl ?_ ?_)<;>intro hF
 ·exact X0 9 rfl (rb h hF rfl)
 exact X0 6 rfl (rb h hF rfl)
def qhQ (_:Nat) (s cutset:ByteArray):Option ByteArray :=
 if s.size≤9223372036854775807∧cutset.size<4294967281∧cutset.data.toList.all (fun b=>decide (b.toNat<128))=true then some ⟨(Lib.trimS s.data.toList cutset.data.toList).toArray⟩ else none
theorem qoA {s cutset:ByteArray} {r:ByteArray} (hF:qhQ n s cutset=some r):RetV Tryz.prog 177 [.string s,.string cutset] w r:=by
 unfold qhQ at hF
 split at hF
 ·rename_i hh
  obtain rfl:=qb hF
  refine (Tryz.strings_Trim_any s cutset w hh.1 hh.2.1 hh.2.2).mono ?_
  rintro e w' ⟨rfl,hB⟩
  exact ⟨_,rfl,hB,[.string _],rfl,qxe _ _⟩
 cases hF
def qfQ (_:Nat) (s:ByteArray) (c:(IntK .u8)):Option Int :=
 some (Lib.indexByte s.data.toList c.val.toNat.toUInt8)
theorem qlW {s:ByteArray} {c:(IntK .u8)} {r:Int} (hF:qfQ n s c=some r):RetV Tryz.prog 178 [.string s,.int .u8 c.val] w r:=by
 obtain rfl:=qb hF
 refine (Tryz.strings_IndexByte s c.val w).mono ?_
 rintro e w' ⟨rfl,rfl⟩
 exact ⟨_,rfl,Below.refl _ _,[.int .i64 _],rfl,qvA _ _⟩
def qhc (n:Nat) (s:ByteArray):Option Bool :=
 (qaF n (s.size:Int) 1 8).bind fun r1 =>
 bif r1 then
  (qhQ n s (⟨#[97,98,99,100,101,102,103,104,105,106,107,108,109,110,111,112,113,114,115,116,117,118,119,120,121,122,48,49,50,51,52,53,54,55,56,57]⟩:ByteArray)).bind fun r2 =>
  bif (r2.toList==(⟨#[]⟩:ByteArray).toList) then
   (atS s 0).bind fun y1 =>
   (qfQ n (⟨#[97,98,99,100,101,102,103,104,105,106,107,108,109,110,111,112,113,114,115,116,117,118,119,120,121,122]⟩:ByteArray) (⟨y1⟩:IntK .u8)).bind fun r3 =>
   some (decide (r3 ≥ 0))
  else
   some false
 else
  some false
theorem qjH {s:ByteArray}  {r:Bool} (hF:qhc n s=some r):RetV Tryz.prog 137 [.string s] w r:=by
 refine zV 17 Tryz.func137 rfl fun h=>X0 8 rfl (zcB h hF qas rfl fun r1 w1 h hF=>zp1 rfl (qi (t:=6) hF rfl ?_ ?_))<;>intro hF
 ·refine X0 3 rfl (zcS h hF qoA rfl fun r2 w2 h hF=>X0 4 rfl (qi (t:=11) hF rfl ?_ ?_))<;>intro hF
  ·refine X0 3 rfl ?_
   obtain ⟨y1,hx1,hF⟩:=qc hF
   have g1:=qmb hx1
   exact r_v (qmg qa g1 rfl rfl rfl rfl) rfl (X0 1 rfl (zcI h hF qlW rfl fun r3 w3 h hF=>X0 5 rfl (rb h hF rfl)))
  exact X0 7 rfl (rb h hF rfl)
 exact X0 12 rfl (rb h hF rfl)
def qbE (s:(List ByteArray)) (v:ByteArray):Nat→Int→Option (Flow Int Int)
 | 0,_=>none
 | n+1,i1 =>
  bif decide (i1<(s.length:Int)) then
   (idx s i1).bind fun y1 =>
   bif (v.toList==y1.toList) then some (.ret i1) else
   qbE s v n (W64 (i1+1))
  else
   some (.nxt i1)
def qeD (n:Nat) (s:(List ByteArray)) (v:ByteArray):Option Int :=
 (qbE s v n 0).bind fun o=>match o with
 | .ret r=>some r
 | .nxt _ =>
  some (-1)
theorem qlh {s:(List ByteArray)} {v:ByteArray} (ha1:GoT.R w (old w) s cs1) {r:Int} (hF:qeD n s v=some r):RetV Tryz.prog 258 [GoT.v (List ByteArray) cs1,.string v] w r:=by
 obtain ⟨p1,k1,rfl,s1⟩:=ha1
 refine zV 19 Tryz.func258 rfl fun h=>X0 11 rfl ?_
 obtain ⟨o1,hF,hK1⟩:=qc hF
 refine ql (rL (fun m e w'=>∃ (i1:Int),qbE s v m i1=some o1∧e=[(0,.slice p1 s.length k1),(1,.string v),(7,.int .i64 (s.length:Int)),(8,.int .i64 i1)]∧SH w w' []) n ⟨_,hF,rfl,h⟩ rfl ?_)
 rintro m1 e1 w1 ⟨i1,hF,rfl,h⟩
 rcases m1 with _|m1
 ·cases hF
 refine X0 5 rfl (qh rfl hF ?_ ?_)<;>intro hF
 ·refine X0 13 rfl ?_
  obtain ⟨y1,hy1,hF,he1,b1,_,q1,cs2,hp1,hq1,rfl,hc2⟩:=s1.ix hF
  refine zxe hp1 hq1 he1 rfl (zc 0 (hc2.below h.below) rfl (X0 2 rfl (qh rfl hF ?_ ?_)))<;>intro hF
  ·refine X0 5 rfl ?_
   obtain rfl:=qb hF;replace hF:=hK1
   exact ri h hF rfl
  exact X0 6 rfl (rK ⟨_,hF,rfl,h⟩ rfl)
 refine qr rfl ?_
 obtain rfl:=qb hF;replace hF:=hK1
 exact X0 4 rfl (ri h hF rfl)
def qdy (n:Nat) (s:(List ByteArray)) (v:ByteArray):Option Bool :=
 (qeD n s v).bind fun r1 =>
 some (decide (r1 ≥ 0))
theorem qj0 {s:(List ByteArray)} {v:ByteArray} (ha1:GoT.R w (old w) s cs1) {r:Bool} (hF:qdy n s v=some r):RetV Tryz.prog 238 [GoT.v (List ByteArray) cs1,.string v] w r:=by
 obtain ⟨p1,k1,rfl,s1⟩:=ha1
 exact zV 9 Tryz.func238 rfl fun h=>X0 8 rfl (zcI h hF (qlh ⟨_,_,rfl,(h.oldS s1)⟩) rfl fun r1 w1 h hF=>X0 3 rfl (rb h hF rfl))
def qdE (list:(List ByteArray)):Nat→Int→Option (Flow Bool Int)
 | 0,_=>none
 | n+1,i1 =>
  bif decide (i1<(list.length:Int)) then
   (idx list i1).bind fun y1 =>
   (qhc n y1).bind fun r1 =>
   bif (!r1) then some (.ret false) else
   (subS list 0 i1).bind fun x1 =>
   (qdy n x1 y1).bind fun r2 =>
   bif r2 then some (.ret false) else
   qdE list n (W64 (i1+1))
  else
   some (.nxt i1)
def qdA (n:Nat) (list:(List ByteArray)):Option Bool :=
 (qdE list n 0).bind fun o=>match o with
 | .ret r=>some r
 | .nxt _ =>
  some true
theorem qeI {list:(List ByteArray)} (ha1:GoT.R w (old w) list cs1) {r:Bool} (hF:qdA n list=some r):RetV Tryz.prog 205 [GoT.v (List ByteArray) cs1] w r:=by
 obtain ⟨p1,k1,rfl,s1⟩:=ha1
 refine zV 23 Tryz.func205 rfl fun h=>X0 11 rfl ?_
 obtain ⟨o1,hF,hK1⟩:=qc hF
 refine ql (rL (fun m e w'=>∃ (i1:Int),qdE list m i1=some o1∧e=[(0,.slice p1 list.length k1),(5,.slice p1 list.length k1),(6,.int .i64 (list.length:Int)),(7,.int .i64 i1)]∧SH w w' []) n ⟨_,hF,rfl,h⟩ rfl ?_)
 rintro m1 e1 w1 ⟨i1,hF,rfl,h⟩
 rcases m1 with _|m1
 ·cases hF
 refine X0 5 rfl (qh rfl hF ?_ ?_)<;>intro hF
 ·refine X0 6 rfl ?_
  obtain ⟨y1,hy1,hF,he1,b1,_,q1,cs2,hp1,hq1,rfl,hc2⟩:=s1.ix hF
  refine zxe hp1 hq1 he1 rfl (zc 0 (hc2.below h.below) rfl (X0 6 rfl (zcB h hF qjH rfl fun r1 w2 h hF=>zp2 rfl (qi (t:=15) hF rfl ?_ ?_))))<;>intro hF
  ·refine X0 7 rfl (qbO rfl rfl (X0 4 rfl ?_))
   obtain rfl:=qb hF;replace hF:=hK1
   exact rb h hF rfl
  refine X0 5 rfl ?_
  obtain ⟨x1,hx1,hF⟩:=qc hF
  obtain ⟨p2,k2,hp2,hk1,hl1,g1⟩:=quK (h.oldS s1) hx1
  refine r_v (qrw qa rfl rfl rfl (qvh g1 rfl) hp2 hk1 hl1 rfl rfl rfl rfl) rfl ?_
  have s2:=qvi s1 hx1 hp2 hk1
  refine X0 3 rfl (zcB h hF (qj0 ⟨_,_,rfl,(h.oldS s2)⟩) rfl fun r2 w3 h hF=>X0 2 rfl (qh rfl hF ?_ ?_))<;>intro hF
  ·refine X0 4 rfl ?_
   obtain rfl:=qb hF;replace hF:=hK1
   exact rb h hF rfl
  exact X0 6 rfl (rK ⟨_,hF,rfl,h⟩ rfl)
 refine qr rfl ?_
 obtain rfl:=qb hF;replace hF:=hK1
 exact X0 4 rfl (rb h hF rfl)
def qb7 (_:Nat) (list:(List qal)):Option Int :=
 some (list.length:Int)
theorem qhe {list:(List qal)} (ha1:GoT.R w (old w) list cs1) {r:Int} (hF:qb7 n list=some r):RetV Tryz.prog 252 [GoT.v (List qal) cs1] w r:=by
 obtain ⟨p1,k1,rfl,s1⟩:=ha1
 exact zV 5 Tryz.func252 rfl fun h=>X0 10 rfl (ri h hF rfl)
def qcz (list:(List qal)):Nat→(List ByteArray)→Int→Option (Flow Bool ((List ByteArray) × Int))
 | 0,_,_=>none
 | n+1,x1,i1 =>
  bif decide (i1<(list.length:Int)) then
   (idx list i1).bind fun y1 =>
   (appS x1 ([y1.Av]:List ByteArray)).bind fun x2 =>
   bif (i1==(W64 ((list.length:Int)-1))) then
    bif (y1.Bv != 2) then some (.ret false) else
    bif (y1.Bt != 0) then some (.ret false) else
    bif y1.Bp then some (.ret false) else
    qcz list n x2 (W64 (i1+1))
   else
    bif (y1.Bv != 1) then some (.ret false) else
    (qaF n y1.Bt 0 500).bind fun r1 =>
    bif (!r1) then some (.ret false) else
    qcz list n x2 (W64 (i1+1))
  else
   some (.nxt (x1,i1))
def qjk (n:Nat) (list:(List qal)):Option Bool :=
 (qcz list n ([]:List ByteArray) 0).bind fun o=>match o with
 | .ret r=>some r
 | .nxt (x1,_) =>
  (qb7 n list).bind fun r2 =>
  (qaF n r2 2 5).bind fun r3 =>
  bif r3 then
   (qdA n x1).bind fun r4 =>
   some r4
  else
   some false
theorem qoz {list:(List qal)} (ha1:GoT.R w (old w) list cs1) {r:Bool} (hF:qjk n list=some r):RetV Tryz.prog 235 [GoT.v (List qal) cs1] w r:=by
 obtain ⟨p1,k1,rfl,s1⟩:=ha1
 refine zV 52 Tryz.func235 rfl fun h=>X0 15 rfl ?_
 replace h:=h.nil (α:=ByteArray)
 obtain ⟨o1,hF,hK1⟩:=qc hF
 refine ql (rL (fun m e w'=>∃ (S1:Nat→Prop) (p2:Option Addr) (ln1:Nat) (k2:Nat) (x1:(List ByteArray)) (i1:Int),qcz list m x1 i1=some o1∧e=[(0,.slice p1 list.length k1),(3,.slice p2 ln1 k2),(6,.slice p1 list.length k1),(7,.int .i64 (list.length:Int)),(8,.int .i64 i1)]∧SH w w' [Ch.own S1 (x1:List ByteArray) [.slice p2 ln1 k2]]) n ⟨_,_,_,_,_,_,hF,rfl,h⟩ rfl ?_)
 rintro m1 e1 w1 ⟨S1,p2,ln1,k2,x1,i1,hF,rfl,h⟩
 obtain rfl:=(h.sl 0 rfl).2
 rcases m1 with _|m1
 ·cases hF
 refine X0 5 rfl (qh rfl hF ?_ ?_)<;>intro hF
 ·refine X0 6 rfl ?_
  obtain ⟨y1,hy1,hF,he1,b1,_,q1,cs2,hp1,hq1,hr1,hc2⟩:=s1.ix hF
  obtain rfl:=qbd hr1
  refine zxe hp1 hq1 he1 rfl (zc 0 (hc2.below h.below) rfl (qm qa h rfl rfl rfl fun w2 bb1 h=>zp1 rfl (zs 0 h rfl fun w3 h=>X1 6 0 h rfl (qQ qa [.tmp 15] _ ([y1.Av]:List ByteArray) h rfl rfl rfl rfl rfl rfl rfl rfl rfl ⟨rfl,trivial⟩ rfl fun w4 p3 S2 h=>?_))))
  obtain ⟨x2,hx1,hF⟩:=qc hF
  obtain ⟨g1,hx1⟩:=qar hx1
  refine qcD qa 2 h rfl (h.sl 0 rfl).1 (h.sl 0 rfl).2 rfl rfl rfl rfl rfl rfl rfl rfl rfl g1 hx1 rfl fun w5 p4 k3 S3 h=>X0 10 rfl (qh rfl hF ?_ ?_)<;>intro hF
  ·refine X1 6 1 h rfl (qi (t:=26) hF rfl ?_ ?_)<;>intro hF
   ·refine X0 9 rfl (qbO rfl rfl (X0 4 rfl ?_))
    obtain rfl:=qb hF;replace hF:=hK1
    exact rb h hF rfl
   refine X1 8 1 h rfl (qi (t:=31) hF rfl ?_ ?_)<;>intro hF
   ·refine X0 4 rfl (qbO rfl rfl (X0 4 rfl ?_))
    obtain rfl:=qb hF;replace hF:=hK1
    exact rb h hF rfl
   refine X1 6 1 h rfl (qh rfl hF ?_ ?_)<;>intro hF
   ·refine X0 4 rfl ?_
    obtain rfl:=qb hF;replace hF:=hK1
    exact rb h hF rfl
   refine X0 6 rfl ?_
   replace h:=h.pick [2] rfl
   exact rK ⟨_,_,_,_,_,_,hF,rfl,h⟩ rfl
  refine X1 6 1 h rfl (qi (t:=38) hF rfl ?_ ?_)<;>intro hF
  ·refine X0 6 rfl (qbO rfl rfl (X0 4 rfl ?_))
   obtain rfl:=qb hF;replace hF:=hK1
   exact rb h hF rfl
  refine X1 5 1 h rfl (zcB h hF qas rfl fun r1 w6 h hF=>X0 4 rfl (qh rfl hF ?_ ?_))<;>intro hF
  ·refine X0 4 rfl ?_
   obtain rfl:=qb hF;replace hF:=hK1
   exact rb h hF rfl
  refine X0 6 rfl ?_
  replace h:=h.pick [2] rfl
  exact rK ⟨_,_,_,_,_,_,hF,rfl,h⟩ rfl
 refine qr rfl ?_
 obtain rfl:=qb hF;replace hF:=hK1
 refine X0 3 rfl (zcI h hF (qhe ⟨_,_,rfl,(h.oldS s1)⟩) rfl fun r2 w7 h hF=>zcB h hF qas rfl fun r3 w8 h hF=>zp1 rfl (qi (t:=48) hF rfl ?_ ?_))<;>intro hF
 ·exact X0 3 rfl (zcB h hF (qeI (h.own 0 rfl)) rfl fun r4 w9 h hF=>X0 3 rfl (rb h hF rfl))
 exact X0 5 rfl (rb h hF rfl)
def qdG (n:Nat) (c:qz):Option Int :=
 (qb7 n c.Az).bind fun r1 =>
 some (W64 (r1-1))
theorem qgA {c:qz} (ha1:GoT.R w (old w) c cs1) {r:Int} (hF:qdG n c=some r):RetV Tryz.prog 256 [GoT.v qz cs1] w r:=by
 obtain ⟨p1,k1,p2,k2,p3,k3,rfl,s1,s2,s3⟩:=qW ha1
 exact zV 7 Tryz.func256 rfl fun h=>zSR (qt h rfl rfl fun w1 bb1 h=>X1 6 0 h rfl (zcI h hF (qhe ⟨_,_,rfl,(h.oldS s1)⟩) rfl fun r1 w2 h hF=>X0 3 rfl (ri h hF rfl)))
def qi3 (_:Nat) (kind:Int):Option Bool :=
 bif (kind==4) then some true else
 some (kind==5)
theorem qoK {kind:Int}  {r:Bool} (hF:qi3 n kind=some r):RetV Tryz.prog 265 [.int .i64 kind] w r:=by
 refine zV 9 Tryz.func265 rfl fun h=>X0 9 rfl (qi (t:=5) hF rfl ?_ ?_)<;>intro hF
 ·exact X0 5 rfl (rb h hF rfl)
 exact X0 7 rfl (rb h hF rfl)
def qgm (n:Nat) (a_n:Int) (v0:Int) (v1:Int):Option Bool :=
 (qaF n a_n v0 v1).bind fun r1 =>
 some (!r1)
theorem qmI {a_n:Int} {v0:Int} {v1:Int} {p1:Option Addr} (ha1:GoT.R w (old w) (some v0) [.pointer p1]) {p2:Option Addr} (ha2:GoT.R w (old w) (some v1) [.pointer p2]) {r:Bool} (hF:qgm n a_n v0 v1=some r):RetV Tryz.prog 114 [.int .i64 a_n,.pointer p1,.pointer p2] w r:=by
 obtain ⟨b1,o_1,cs1,rfl,-,hr1,hc1⟩:=PtR.get ha1 rfl
 obtain rfl:=hr1
 obtain ⟨b2,o_2,cs2,rfl,-,hr2,hc2⟩:=PtR.get ha2 rfl
 obtain rfl:=hr2
 exact zV 10 Tryz.func114 rfl fun h=>X0 7 rfl (zc 0 (hc1.below h.below) rfl (zc 0 (hc2.below h.below) rfl (zcB h hF qas rfl fun r1 w1 h hF=>X0 3 rfl (rb h hF rfl))))
def qV (s:(List Int)) (f_0:Int) (f_1:Int):Nat→Int→Option (Flow Int Int)
 | 0,_=>none
 | n+1,i1 =>
  bif decide (i1<(s.length:Int)) then
   (idx s i1).bind fun y1 =>
   (qgm n y1 f_0 f_1).bind fun r1 =>
   bif r1 then some (.ret i1) else
   qV s f_0 f_1 n (W64 (i1+1))
  else
   some (.nxt i1)
def qaH (n:Nat) (s:(List Int)) (f_0:Int) (f_1:Int):Option Int :=
 (qV s f_0 f_1 n 0).bind fun o=>match o with
 | .ret r=>some r
 | .nxt _ =>
  some (-1)
theorem qe0 {s:(List Int)} {f_0:Int} {f_1:Int} (ha1:GoT.R w (old w) s cs1) {p2:Option Addr} (ha2:GoT.R w (old w) (some f_0) [.pointer p2]) {p3:Option Addr} (ha3:GoT.R w (old w) (some f_1) [.pointer p3]) {r:Int} (hF:qaH n s f_0 f_1=some r):RetV Tryz.prog 160 [GoT.v (List Int) cs1,.func (.func 114) #[] #[.pointer p2,.pointer p3]] w r:=by
 obtain ⟨p1,k1,rfl,s1⟩:=ha1
 obtain ⟨b1,o_1,cs2,rfl,-,hr1,hc1⟩:=PtR.get ha2 rfl
 obtain rfl:=hr1
 obtain ⟨b2,o_2,cs3,rfl,-,hr2,hc2⟩:=PtR.get ha3 rfl
 obtain rfl:=hr2
 refine zV 19 Tryz.func160 rfl fun h=>X0 11 rfl ?_
 obtain ⟨o1,hF,hK1⟩:=qc hF
 refine ql (rL (fun m e w'=>∃ (i1:Int),qV s f_0 f_1 m i1=some o1∧e=[(0,.slice p1 s.length k1),(1,.func (.func 114) #[] #[.pointer (some ⟨b1,o_1,none⟩),.pointer (some ⟨b2,o_2,none⟩)]),(7,.int .i64 (s.length:Int)),(8,.int .i64 i1)]∧SH w w' []) n ⟨_,hF,rfl,h⟩ rfl ?_)
 rintro m1 e1 w1 ⟨i1,hF,rfl,h⟩
 rcases m1 with _|m1
 ·cases hF
 refine X0 5 rfl (qh rfl hF ?_ ?_)<;>intro hF
 ·refine X0 13 rfl ?_
  obtain ⟨y1,hy1,hF,he1,b3,_,q1,cs4,hp1,hq1,rfl,hc4⟩:=s1.ix hF
  refine zxe hp1 hq1 he1 rfl (zc 0 (hc4.below h.below) rfl (zcB h hF (qmI (h.old ha2) (h.old ha3)) rfl fun r1 w2 h hF=>qct (qh rfl hF ?_ ?_)))<;>intro hF
  ·refine X0 5 rfl ?_
   obtain rfl:=qb hF;replace hF:=hK1
   exact ri h hF rfl
  exact X0 6 rfl (rK ⟨_,hF,rfl,h⟩ rfl)
 refine qr rfl ?_
 obtain rfl:=qb hF;replace hF:=hK1
 exact X0 4 rfl (ri h hF rfl)
def qbe (n:Nat) (s:(List Int)) (f_0:Int) (f_1:Int):Option Bool :=
 (qaH n s f_0 f_1).bind fun r1 =>
 some (decide (r1 ≥ 0))
theorem qeB {s:(List Int)} {f_0:Int} {f_1:Int} (ha1:GoT.R w (old w) s cs1) {p2:Option Addr} (ha2:GoT.R w (old w) (some f_0) [.pointer p2]) {p3:Option Addr} (ha3:GoT.R w (old w) (some f_1) [.pointer p3]) {r:Bool} (hF:qbe n s f_0 f_1=some r):RetV Tryz.prog 111 [GoT.v (List Int) cs1,.func (.func 114) #[] #[.pointer p2,.pointer p3]] w r:=by
 obtain ⟨p1,k1,rfl,s1⟩:=ha1
 obtain ⟨b1,o_1,cs2,rfl,-,hr1,hc1⟩:=PtR.get ha2 rfl
 obtain rfl:=hr1
 obtain ⟨b2,o_2,cs3,rfl,-,hr2,hc2⟩:=PtR.get ha3 rfl
 obtain rfl:=hr2
 exact zV 9 Tryz.func111 rfl fun h=>X0 8 rfl (zcI h hF (qe0 ⟨_,_,rfl,(h.oldS s1)⟩ (h.old ha2) (h.old ha3)) rfl fun r1 w1 h hF=>X0 3 rfl (rb h hF rfl))
def qbS (n:Nat) (list:(List Int)) (low:Int) (high:Int):Option Bool :=
 (qbe n list low high).bind fun r1 =>
 some (!r1)
theorem qck {list:(List Int)} {low:Int} {high:Int} (ha1:GoT.R w (old w) list cs1) {r:Bool} (hF:qbS n list low high=some r):RetV Tryz.prog 62 [GoT.v (List Int) cs1,.int .i64 low,.int .i64 high] w r:=by
 obtain ⟨p1,k1,rfl,s1⟩:=ha1
 exact zV 11 Tryz.func62 rfl fun h=>zSR (qt h rfl rfl fun w1 bb1 h=>qt h rfl rfl fun w2 bb2 h=>X0 6 rfl (zcB h hF (qeB ⟨_,_,rfl,(h.oldS s1)⟩ (qhu (x:=low) 1 h rfl rfl) (qhu (x:=high) 0 h rfl rfl)) rfl fun r1 w3 h hF=>X0 3 rfl (rb h hF rfl)))
def qa7 (_:Nat) (list:(List Int)):Option Int :=
 some (list.length:Int)
theorem qb1 {list:(List Int)} (ha1:GoT.R w (old w) list cs1) {r:Int} (hF:qa7 n list=some r):RetV Tryz.prog 140 [GoT.v (List Int) cs1] w r:=by
 obtain ⟨p1,k1,rfl,s1⟩:=ha1
 exact zV 5 Tryz.func140 rfl fun h=>X0 10 rfl (ri h hF rfl)
def qbb (list:(List Int)):Nat→Int→Option (Flow Bool Int)
 | 0,_=>none
 | n+1,i1 =>
  bif decide (i1<(list.length:Int)) then
   (idx list (W64 (i1-1))).bind fun y1 =>
   (idx list i1).bind fun y2 =>
   bif decide (y1 ≥ y2) then some (.ret false) else
   qbb list n (W64 (i1+1))
  else
   some (.nxt i1)
def qeu (n:Nat) (list:(List Int)):Option Bool :=
 (qbb list n 1).bind fun o=>match o with
 | .ret r=>some r
 | .nxt _ =>
  some true
theorem qiN {list:(List Int)} (ha1:GoT.R w (old w) list cs1) {r:Bool} (hF:qeu n list=some r):RetV Tryz.prog 147 [GoT.v (List Int) cs1] w r:=by
 obtain ⟨p1,k1,rfl,s1⟩:=ha1
 refine zV 20 Tryz.func147 rfl fun h=>X0 9 rfl ?_
 obtain ⟨o1,hF,hK1⟩:=qc hF
 refine ql (rL (fun m e w'=>∃ (i1:Int),qbb list m i1=some o1∧e=[(0,.slice p1 list.length k1),(3,.int .i64 i1)]∧SH w w' []) n ⟨_,hF,rfl,h⟩ rfl ?_)
 rintro m1 e1 w1 ⟨i1,hF,rfl,h⟩
 rcases m1 with _|m1
 ·cases hF
 refine X0 8 rfl (qh rfl hF ?_ ?_)<;>intro hF
 ·refine X0 4 rfl (rD (zd3 rfl ?_))
  obtain ⟨y1,hy1,hF,he1,b1,_,q1,cs2,hp1,hq1,rfl,hc2⟩:=s1.ix hF
  refine zdxe hp1 hq1 he1 rfl (zdc 0 (hc2.below h.below) rfl (zd2 rfl ?_))
  obtain ⟨y2,hy2,hF,he2,b2,_,q2,cs3,hp2,hq2,rfl,hc3⟩:=s1.ix hF
  refine zdxe hp2 hq2 he2 rfl (zdc 0 (hc3.below h.below) rfl (zd1 rfl (dN h fun w2 h=>qh rfl hF ?_ ?_)))<;>intro hF
  ·refine X0 4 rfl ?_
   obtain rfl:=qb hF;replace hF:=hK1
   exact rb h hF rfl
  exact X0 7 rfl (rK ⟨_,hF,rfl,h⟩ rfl)
 refine qr rfl ?_
 obtain rfl:=qb hF;replace hF:=hK1
 exact X0 4 rfl (rb h hF rfl)
def qiC (n:Nat) (list:(List Int)):Option Bool :=
 (qa7 n list).bind fun r1 =>
 (qaF n r1 1 4).bind fun r2 =>
 bif r2 then
  (qbS n list 0 100000).bind fun r3 =>
  bif r3 then
   (qeu n list).bind fun r4 =>
   some r4
  else
   some false
 else
  some false
theorem qlX {list:(List Int)} (ha1:GoT.R w (old w) list cs1) {r:Bool} (hF:qiC n list=some r):RetV Tryz.prog 286 [GoT.v (List Int) cs1] w r:=by
 obtain ⟨p1,k1,rfl,s1⟩:=ha1
 refine zV 14 Tryz.func286 rfl fun h=>X0 7 rfl (zcI h hF (qb1 ⟨_,_,rfl,(h.oldS s1)⟩) rfl fun r1 w1 h hF=>zcB h hF qas rfl fun r2 w2 h hF=>zp1 rfl (qi (t:=6) hF rfl ?_ ?_))<;>intro hF
 ·refine X0 3 rfl (zcB h hF (qck ⟨_,_,rfl,(h.oldS s1)⟩) rfl fun r3 w3 h hF=>zp2 rfl (qi (t:=10) hF rfl ?_ ?_))<;>intro hF
  ·exact X0 3 rfl (zcB h hF (qiN ⟨_,_,rfl,(h.oldS s1)⟩) rfl fun r4 w4 h hF=>X0 3 rfl (rb h hF rfl))
  exact X0 5 rfl (rb h hF rfl)
 exact X0 9 rfl (rb h hF rfl)
def qjg (n:Nat) (t:qv):Option Bool :=
 (qiC n t.Bl).bind fun r1 =>
 bif r1 then
  (qiC n t.Bh).bind fun r2 =>
  bif r2 then
   bif ((t.Bf.length:Int)==(W64 ((t.Bl.length:Int)*(t.Bh.length:Int)))) then
    (qbS n t.Bf (-1000000) 1000000).bind fun r3 =>
    some r3
   else
    some false
  else
   some false
 else
  some false
theorem qoS {t:qv} (ha1:GoT.R w (old w) t cs1) {r:Bool} (hF:qjg n t=some r):RetV Tryz.prog 279 [GoT.v qv cs1] w r:=by
 obtain ⟨p1,k1,p2,k2,p3,k3,rfl,s1,s2,s3⟩:=qay ha1
 refine zV 29 Tryz.func279 rfl fun h=>zSR (qt h rfl rfl fun w1 bb1 h=>X1 6 0 h rfl (zcB h hF (qlX ⟨_,_,rfl,(h.oldS s1)⟩) rfl fun r1 w2 h hF=>zp1 rfl (qi (t:=6) hF rfl ?_ ?_)))<;>intro hF
 ·refine X1 5 0 h rfl (zcB h hF (qlX ⟨_,_,rfl,(h.oldS s2)⟩) rfl fun r2 w3 h hF=>zp2 rfl (qi (t:=11) hF rfl ?_ ?_))<;>intro hF
  ·refine X3 24 0 0 0 h rfl (qi (t:=24) hF rfl ?_ ?_)<;>intro hF
   ·exact X1 5 0 h rfl (zcB h hF (qck ⟨_,_,rfl,(h.oldS s3)⟩) rfl fun r3 w4 h hF=>X0 3 rfl (rb h hF rfl))
   exact X0 6 rfl (rb h hF rfl)
  exact X0 19 rfl (rb h hF rfl)
 exact X0 24 rfl (rb h hF rfl)
def qcq (x:(List Int)):Nat→Int→Int→Option (Int × Int)
 | 0,_,_=>none
 | n+1,i1,i2 =>
  bif decide (i2<(x.length:Int)) then
   (idx x i2).bind fun y2 =>
   qcq x n (if y2<i1 then y2 else i1) (W64 (i2+1))
  else
   some (i1,i2)
def qgs (n:Nat) (x:(List Int)):Option Int :=
 (
  bif decide ((x.length:Int)<1) then none else
  some ()).bind fun _ =>
 (idx x 0).bind fun y1 =>
 (qcq x n y1 1).bind fun o=>match o with
 | (i1,_) =>
  some i1
theorem qmB {x:(List Int)} (ha1:GoT.R w (old w) x cs1) {r:Int} (hF:qgs n x=some r):RetV Tryz.prog 280 [GoT.v (List Int) cs1] w r:=by
 obtain ⟨p1,k1,rfl,s1⟩:=ha1
 refine zV 25 Tryz.func280 rfl fun h=>X0 11 rfl ?_
 obtain ⟨KF1,hKF1,o2,hF,hK2⟩:=bindE hF
 refine qbp (fun e w'=>KF1 ()=some r∧e=[(0,.slice p1 x.length k1)]∧SH w w' []) ?_ ?_
 ·refine qh rfl hF ?_ ?_<;>intro hF
  ·refine qkF ?_
   cases hF
  refine qg1 ?_
  obtain rfl:=qb hF
  exact rG ⟨hK2,rfl,h⟩ rfl
 rintro e2 w2 ⟨hF,rfl,h⟩
 subst hKF1
 refine X0 3 rfl ?_
 obtain ⟨y1,hy1,hF,he1,b1,_,q1,cs2,hp1,hq1,rfl,hc1⟩:=s1.ix hF
 refine zxe hp1 hq1 he1 rfl (zc 0 (hc1.below h.below) rfl (X0 7 rfl ?_))
 obtain ⟨o1,hF,hK1⟩:=qc hF
 refine ql (rL (fun m e w'=>∃ (i1:Int) (i2:Int),qcq x m i1 i2=some o1∧e=[(0,.slice p1 x.length k1),(3,.int .i64 i1),(4,.int .i64 i2)]∧SH w w' []) n ⟨_,_,hF,rfl,h⟩ rfl ?_)
 rintro m1 e1 w1 ⟨i1,i2,hF,rfl,h⟩
 rcases m1 with _|m1
 ·cases hF
 refine X0 8 rfl (qh rfl hF ?_ ?_)<;>intro hF
 ·refine X0 7 rfl ?_
  obtain ⟨y2,hy2,hF,he2,b2,_,q2,cs3,hp2,hq2,rfl,hc3⟩:=s1.ix hF
  exact zxe hp2 hq2 he2 rfl (zc 0 (hc3.below h.below) rfl (X0 9 rfl (rK ⟨_,_,hF,rfl,h⟩ rfl)))
 refine qr rfl ?_
 obtain rfl:=qb hF;replace hF:=hK1
 exact X0 5 rfl (ri h hF rfl)
def qgr (n:Nat) (t:qv) (v0:Bool):Option Bool :=
 (qjg n t).bind fun r1 =>
 bif (!r1) then some true else
 bif v0 then
  (qgs n t.Bf).bind fun r2 =>
  some (decide (r2<0))
 else
  some false
theorem qmA {t:qv} {v0:Bool} (ha1:GoT.R w (old w) t cs1) {p4:Option Addr} (ha2:GoT.R w (old w) (some v0) [.pointer p4]) {r:Bool} (hF:qgr n t v0=some r):RetV Tryz.prog 278 [GoT.v qv cs1,.pointer p4] w r:=by
 obtain ⟨p1,k1,p2,k2,p3,k3,rfl,s1,s2,s3⟩:=qay ha1
 obtain ⟨b1,o_1,cs2,rfl,-,hr1,hc1⟩:=PtR.get ha2 rfl
 obtain rfl:=hr1
 refine zV 16 Tryz.func278 rfl fun h=>zSR (qt h rfl rfl fun w1 bb1 h=>X1 5 0 h rfl (zcB h hF (qoS (h.old ha1)) rfl fun r1 w2 h hF=>zp2 rfl (qi (t:=7) hF rfl ?_ ?_)))<;>intro hF
 ·exact X0 10 rfl (rb h hF rfl)
 refine X0 1 rfl (zc 0 (hc1.below h.below) rfl (X0 2 rfl (qi (t:=9) hF rfl ?_ ?_)))<;>intro hF
 ·exact X1 5 0 h rfl (zcI h hF (qmB ⟨_,_,rfl,(h.oldS s3)⟩) rfl fun r2 w3 h hF=>X0 7 rfl (rb h hF rfl))
 exact X0 9 rfl (rb h hF rfl)
def qK (s:(List qv)) (f_0:Bool):Nat→Int→Option (Flow Int Int)
 | 0,_=>none
 | n+1,i1 =>
  bif decide (i1<(s.length:Int)) then
   (idx s i1).bind fun y1 =>
   (qgr n y1 f_0).bind fun r1 =>
   bif r1 then some (.ret i1) else
   qK s f_0 n (W64 (i1+1))
  else
   some (.nxt i1)
def qau (n:Nat) (s:(List qv)) (f_0:Bool):Option Int :=
 (qK s f_0 n 0).bind fun o=>match o with
 | .ret r=>some r
 | .nxt _ =>
  some (-1)
theorem qes {s:(List qv)} {f_0:Bool} (ha1:GoT.R w (old w) s cs1) {p2:Option Addr} (ha2:GoT.R w (old w) (some f_0) [.pointer p2]) {r:Int} (hF:qau n s f_0=some r):RetV Tryz.prog 285 [GoT.v (List qv) cs1,.func (.func 278) #[] #[.pointer p2]] w r:=by
 obtain ⟨p1,k1,rfl,s1⟩:=ha1
 obtain ⟨b1,o_1,cs2,rfl,-,hr1,hc1⟩:=PtR.get ha2 rfl
 obtain rfl:=hr1
 refine zV 19 Tryz.func285 rfl fun h=>X0 11 rfl ?_
 obtain ⟨o1,hF,hK1⟩:=qc hF
 refine ql (rL (fun m e w'=>∃ (i1:Int),qK s f_0 m i1=some o1∧e=[(0,.slice p1 s.length k1),(1,.func (.func 278) #[] #[.pointer (some ⟨b1,o_1,none⟩)]),(7,.int .i64 (s.length:Int)),(8,.int .i64 i1)]∧SH w w' []) n ⟨_,hF,rfl,h⟩ rfl ?_)
 rintro m1 e1 w1 ⟨i1,hF,rfl,h⟩
 rcases m1 with _|m1
 ·cases hF
 refine X0 5 rfl (qh rfl hF ?_ ?_)<;>intro hF
 ·refine X0 13 rfl ?_
  obtain ⟨y1,hy1,hF,he1,b2,_,q1,cs3,hp1,hq1,hr2,hc3⟩:=s1.ix hF
  obtain ⟨p3,k2,p4,k3,p5,k4,rfl,s2,s3,s4⟩:=qay hr2
  refine zxe hp1 hq1 he1 rfl (zc 0 (hc3.below h.below) rfl (zcB h hF (qmA (qew y1 (h.oldS s2) (h.oldS s3) (h.oldS s4)) (h.old ha2)) rfl fun r1 w2 h hF=>qct (qh rfl hF ?_ ?_)))<;>intro hF
  ·refine X0 5 rfl ?_
   obtain rfl:=qb hF;replace hF:=hK1
   exact ri h hF rfl
  exact X0 6 rfl (rK ⟨_,hF,rfl,h⟩ rfl)
 refine qr rfl ?_
 obtain rfl:=qb hF;replace hF:=hK1
 exact X0 4 rfl (ri h hF rfl)
def qaP (n:Nat) (s:(List qv)) (f_0:Bool):Option Bool :=
 (qau n s f_0).bind fun r1 =>
 some (decide (r1 ≥ 0))
theorem qdW {s:(List qv)} {f_0:Bool} (ha1:GoT.R w (old w) s cs1) {p2:Option Addr} (ha2:GoT.R w (old w) (some f_0) [.pointer p2]) {r:Bool} (hF:qaP n s f_0=some r):RetV Tryz.prog 277 [GoT.v (List qv) cs1,.func (.func 278) #[] #[.pointer p2]] w r:=by
 obtain ⟨p1,k1,rfl,s1⟩:=ha1
 obtain ⟨b1,o_1,cs2,rfl,-,hr1,hc1⟩:=PtR.get ha2 rfl
 obtain rfl:=hr1
 exact zV 9 Tryz.func277 rfl fun h=>X0 8 rfl (zcI h hF (qes ⟨_,_,rfl,(h.oldS s1)⟩ (h.old ha2)) rfl fun r1 w1 h hF=>X0 3 rfl (rb h hF rfl))
def qeJ (n:Nat) (list:(List qv)) (positive:Bool):Option Bool :=
 bif ((list.length:Int)==2) then
  (qaP n list positive).bind fun r1 =>
  some (!r1)
 else
  some false
theorem qhD {list:(List qv)} {positive:Bool} (ha1:GoT.R w (old w) list cs1) {r:Bool} (hF:qeJ n list positive=some r):RetV Tryz.prog 266 [GoT.v (List qv) cs1,.bool positive] w r:=by
 obtain ⟨p1,k1,rfl,s1⟩:=ha1
 refine zV 14 Tryz.func266 rfl fun h=>zSR (qt h rfl rfl fun w1 bb1 h=>X0 8 rfl (qi (t:=8) hF rfl ?_ ?_))<;>intro hF
 ·exact X0 5 rfl (zcB h hF (qdW ⟨_,_,rfl,(h.oldS s1)⟩ (qhu (x:=positive) 0 h rfl rfl)) rfl fun r1 w2 h hF=>X0 5 rfl (rb h hF rfl))
 exact X0 7 rfl (rb h hF rfl)
def qhJ (_:Nat) (p:qal):Option Bool :=
 some p.Bp
theorem qlR {p:qal} (ha1:GoT.R w (old w) p cs1) {r:Bool} (hF:qhJ n p=some r):RetV Tryz.prog 282 [GoT.v qal cs1] w r:=by
 obtain rfl:=qbd ha1
 exact zV 5 Tryz.func282 rfl fun h=>zSR (qt h rfl rfl fun w1 bb1 h=>X1 8 0 h rfl (rb h hF rfl))
def qP (s:(List qal)):Nat→Int→Option (Flow Int Int)
 | 0,_=>none
 | n+1,i1 =>
  bif decide (i1<(s.length:Int)) then
   (idx s i1).bind fun y1 =>
   (qhJ n y1).bind fun r1 =>
   bif r1 then some (.ret i1) else
   qP s n (W64 (i1+1))
  else
   some (.nxt i1)
def qa9 (n:Nat) (s:(List qal)):Option Int :=
 (qP s n 0).bind fun o=>match o with
 | .ret r=>some r
 | .nxt _ =>
  some (-1)
theorem qez {s:(List qal)} (ha1:GoT.R w (old w) s cs1) {r:Int} (hF:qa9 n s=some r):RetV Tryz.prog 281 [GoT.v (List qal) cs1,.func (.func 282) #[] #[]] w r:=by
 obtain ⟨p1,k1,rfl,s1⟩:=ha1
 refine zV 19 Tryz.func281 rfl fun h=>X0 11 rfl ?_
 obtain ⟨o1,hF,hK1⟩:=qc hF
 refine ql (rL (fun m e w'=>∃ (i1:Int),qP s m i1=some o1∧e=[(0,.slice p1 s.length k1),(1,.func (.func 282) #[] #[]),(7,.int .i64 (s.length:Int)),(8,.int .i64 i1)]∧SH w w' []) n ⟨_,hF,rfl,h⟩ rfl ?_)
 rintro m1 e1 w1 ⟨i1,hF,rfl,h⟩
 rcases m1 with _|m1
 ·cases hF
 refine X0 5 rfl (qh rfl hF ?_ ?_)<;>intro hF
 ·refine X0 13 rfl ?_
  obtain ⟨y1,hy1,hF,he1,b1,_,q1,cs2,hp1,hq1,hr1,hc2⟩:=s1.ix hF
  obtain rfl:=qbd hr1
  refine zxe hp1 hq1 he1 rfl (zc 0 (hc2.below h.below) rfl (zcB h hF (qlR (qiJ y1)) rfl fun r1 w2 h hF=>qct (qh rfl hF ?_ ?_)))<;>intro hF
  ·refine X0 5 rfl ?_
   obtain rfl:=qb hF;replace hF:=hK1
   exact ri h hF rfl
  exact X0 6 rfl (rK ⟨_,hF,rfl,h⟩ rfl)
 refine qr rfl ?_
 obtain rfl:=qb hF;replace hF:=hK1
 exact X0 4 rfl (ri h hF rfl)
def qgT (n:Nat) (c:qz):Option Int :=
 (qa9 n c.Az).bind fun r1 =>
 some r1
theorem qmW {c:qz} (ha1:GoT.R w (old w) c cs1) {r:Int} (hF:qgT n c=some r):RetV Tryz.prog 267 [GoT.v qz cs1] w r:=by
 obtain ⟨p1,k1,p2,k2,p3,k3,rfl,s1,s2,s3⟩:=qW ha1
 exact zV 6 Tryz.func267 rfl fun h=>zSR (qt h rfl rfl fun w1 bb1 h=>X1 6 0 h rfl (zcI h hF (qez ⟨_,_,rfl,(h.oldS s1)⟩) rfl fun r1 w2 h hF=>X0 2 rfl (ri h hF rfl)))
def qfP (n:Nat) (c:qz) (pin:Int):Option Bool :=
 (qdG n c).bind fun r1 =>
 (qaF n pin 0 (W64 (r1-1))).bind fun r2 =>
 some r2
theorem qiO {c:qz} {pin:Int} (ha1:GoT.R w (old w) c cs1) {r:Bool} (hF:qfP n c pin=some r):RetV Tryz.prog 268 [GoT.v qz cs1,.int .i64 pin] w r:=by
 obtain ⟨p1,k1,p2,k2,p3,k3,rfl,s1,s2,s3⟩:=qW ha1
 exact zV 10 Tryz.func268 rfl fun h=>zSR (qt h rfl rfl fun w1 bb1 h=>X1 6 0 h rfl (zcI h hF (qgA (h.old ha1)) rfl fun r1 w2 h hF=>zp1 rfl (zcB h hF qas rfl fun r2 w3 h hF=>X0 2 rfl (rb h hF rfl))))
end Go.Fw


namespace Go.Fw
open Go Go.Proofs
open Go.RowKit (Below)
set_option maxRecDepth 100000
set_option maxHeartbeats 1600000
variable {n:Nat} {w:World} {cs1 cs2 cs3 cs4 cs5 cs6 cs7 cs8 cs9:List Value}
def qgW (n:Nat) (a_0:qz) (a_1:qN):Option Bool :=
 (qi3 n a_1.Ba).bind fun r1 =>
 bif r1 then
  (
   bif (a_1.Bn==0) then
    bif ((a_1.Bc.length:Int)==0) then
     (qeJ n a_1.Bq false).bind fun r2 =>
     bif r2 then
      (qgT n a_0).bind fun r3 =>
      bif (a_1.Bi==r3) then
       bif decide (a_1.Bi ≥ 0) then
        (qfP n a_0 a_1.To).bind fun r4 =>
        bif r4 then some (a_1.To != a_1.Bi) else
        some false
       else
        some false
      else
       some false
     else
      some false
    else
     some false
   else
    some false).bind fun b1 =>
  some b1
 else
  (
   (qeJ n a_1.Bq true).bind fun r6 =>
   bif (!r6) then some true else
   (qeJ n a_1.Bc true).bind fun r7 =>
   bif (!r7) then some true else
   (qdG n a_0).bind fun r8 =>
   bif (a_1.To != r8) then some true else
   (qfP n a_0 a_1.Bi).bind fun r9 =>
   some (!r9)).bind fun b2 =>
  bif b2 then some false else
  bif (a_1.Ba==1) then
   (idx a_0.Az a_1.Bi).bind fun y1 =>
   bif (!y1.Bp) then
    (qaF n a_1.Bn 1 3).bind fun r5 =>
    some r5
   else
    some false
  else
   (
    bif (a_1.Ba==2) then some (a_1.Ba==2) else
    some (a_1.Ba==3)).bind fun b4 =>
   bif b4 then
    (idx a_0.Az a_1.Bi).bind fun y2 =>
    bif y2.Bp then some (a_1.Bn==0) else
    some false
   else
    some false
theorem qmX {a_0:qz} {a_1:qN} (ha1:GoT.R w (old w) a_0 cs1) (ha2:GoT.R w (old w) a_1 cs2) {r:Bool} (hF:qgW n a_0 a_1=some r):RetV Tryz.prog 253 [GoT.v qz cs1,GoT.v qN cs2] w r:=by
 obtain ⟨p1,k1,p2,k2,p3,k3,rfl,s1,s2,s3⟩:=qW ha1
 obtain ⟨p4,k4,p5,k5,rfl,s4,s5⟩:=qX ha2
 refine zV 103 Tryz.func253 rfl fun h=>zSR (qt h rfl rfl fun w1 bb1 h=>qt h rfl rfl fun w2 bb2 h=>X1 7 0 h rfl (zcB h hF qoK rfl fun r1 w3 h hF=>qct (qh rfl hF ?_ ?_)))<;>intro hF
 ·refine qcA ?_
  obtain ⟨KF1,hKF1,o1,hF,hK1⟩:=bindE hF
  refine qbp (fun e w'=>∃ (b1:Bool),KF1 b1=some r∧e=[(4,.bool b1)]∧SH w w' []) ?_ ?_
  ·refine rD (Y1 2 0 h rfl ?_)
   refine zd2 rfl (qaR (t:=11) hF rfl ?_ ?_)<;>intro hF
   ·refine Y1 4 0 h rfl ?_
    refine Y0 6 rfl (qaR (t:=17) hF rfl ?_ ?_)<;>intro hF
    ·refine Y1 4 0 h rfl ?_
     refine Y0 1 rfl ?_
     obtain ⟨r2,hr2,hF⟩:=qc hF
     refine qa8 r2 (vsB _) (cB 266 rfl) (fun _ hb=>qhD ⟨_,_,rfl,((h.ext hb).oldS s4)⟩ hr2) rfl rfl rfl rfl (zd2 rfl (qaR (t:=22) hF rfl ?_ ?_))<;>intro hF
     ·refine Y1 4 0 h rfl ?_
      refine Y1 2 1 h rfl ?_
      refine Y0 1 rfl ?_
      obtain ⟨r3,hr3,hF⟩:=qc hF
      refine qa8 r3 (vsI _) (cB 267 rfl) (fun _ hb=>qmW ((h.ext hb).old ha1) hr3) rfl rfl rfl rfl (Y0 4 rfl (qaR (t:=29) hF rfl ?_ ?_))<;>intro hF
      ·refine Y1 4 0 h rfl ?_
       refine Y0 4 rfl (qaR (t:=34) hF rfl ?_ ?_)<;>intro hF
       ·refine Y1 2 1 h rfl ?_
        refine Y1 4 0 h rfl ?_
        refine Y0 1 rfl ?_
        obtain ⟨r4,hr4,hF⟩:=qc hF
        refine qa8 r4 (vsB _) (cB 268 rfl) (fun _ hb=>qiO ((h.ext hb).old ha1) hr4) rfl rfl rfl rfl (zd2 rfl (qaR (t:=40) hF rfl ?_ ?_))<;>intro hF
        ·refine Y1 4 0 h rfl ?_
         refine Y1 4 0 h rfl ?_
         refine Y0 4 rfl (dN h fun w4 h=>?_)
         replace h:=h.pick [] rfl
         obtain rfl:=qb hF
         exact rG ⟨_,hK1,rfl,h⟩ rfl
        refine Y0 7 rfl (dN h fun w5 h=>?_)
        replace h:=h.pick [] rfl
        obtain rfl:=qb hF
        exact rG ⟨_,hK1,rfl,h⟩ rfl
       refine Y0 13 rfl (dN h fun w6 h=>?_)
       replace h:=h.pick [] rfl
       obtain rfl:=qb hF
       exact rG ⟨_,hK1,rfl,h⟩ rfl
      refine Y0 18 rfl (dN h fun w7 h=>?_)
      replace h:=h.pick [] rfl
      obtain rfl:=qb hF
      exact rG ⟨_,hK1,rfl,h⟩ rfl
     refine Y0 25 rfl (dN h fun w8 h=>?_)
     replace h:=h.pick [] rfl
     obtain rfl:=qb hF
     exact rG ⟨_,hK1,rfl,h⟩ rfl
    refine Y0 30 rfl (dN h fun w9 h=>?_)
    replace h:=h.pick [] rfl
    obtain rfl:=qb hF
    exact rG ⟨_,hK1,rfl,h⟩ rfl
   refine Y0 36 rfl (dN h fun w10 h=>?_)
   replace h:=h.pick [] rfl
   obtain rfl:=qb hF
   exact rG ⟨_,hK1,rfl,h⟩ rfl
  rintro e1 w11 ⟨b1,hF,rfl,h⟩
  subst hKF1
  exact rb h hF rfl
 refine zKSS ?_
 obtain ⟨KF3,hKF3,o3,hF,hK3⟩:=bindE hF
 refine qbp (fun e w'=>∃ (b2:Bool),KF3 b2=some r∧e=[(2,.pointer (some ⟨bb1,0,none⟩)),(3,.pointer (some ⟨bb2,0,none⟩)),(70,.bool b2)]∧SH w w' [Ch.box bb2 (qfY a_1 p4 p5 k4 k5) 171,Ch.box bb1 (qdt a_0 p1 p2 p3 k1 k2 k3) 166]) ?_ ?_
 ·refine rD (Y1 2 0 h rfl ?_)
  obtain ⟨r6,hr8,hF⟩:=qc hF
  refine qa8 r6 (vsB _) (cB 266 rfl) (fun _ hb=>qhD ⟨_,_,rfl,((h.ext hb).oldS s4)⟩ hr8) rfl rfl rfl rfl (zd2 rfl (qaR (t:=51) hF rfl ?_ ?_))<;>intro hF
  ·refine Y0 19 rfl (dN h fun w14 h=>?_)
   obtain rfl:=qb hF
   exact rG ⟨_,hK3,rfl,h⟩ rfl
  refine Y1 4 0 h rfl ?_
  refine Y0 1 rfl ?_
  obtain ⟨r7,hr9,hF⟩:=qc hF
  refine qa8 r7 (vsB _) (cB 266 rfl) (fun _ hb=>qhD ⟨_,_,rfl,((h.ext hb).oldS s5)⟩ hr9) rfl rfl rfl rfl (Y0 4 rfl (qaR (t:=57) hF rfl ?_ ?_))<;>intro hF
  ·refine Y0 13 rfl (dN h fun w15 h=>?_)
   obtain rfl:=qb hF
   exact rG ⟨_,hK3,rfl,h⟩ rfl
  refine Y1 4 0 h rfl ?_
  refine Y1 2 1 h rfl ?_
  refine Y0 1 rfl ?_
  obtain ⟨r8,hr10,hF⟩:=qc hF
  refine qa8 r8 (vsI _) (cB 256 rfl) (fun _ hb=>qgA ((h.ext hb).old ha1) hr10) rfl rfl rfl rfl (Y0 4 rfl (qaR (t:=64) hF rfl ?_ ?_))<;>intro hF
  ·refine Y0 6 rfl (dN h fun w16 h=>?_)
   obtain rfl:=qb hF
   exact rG ⟨_,hK3,rfl,h⟩ rfl
  refine Y1 2 1 h rfl ?_
  refine Y1 4 0 h rfl ?_
  refine Y0 1 rfl ?_
  obtain ⟨r9,hr11,hF⟩:=qc hF
  refine qa8 r9 (vsB _) (cB 268 rfl) (fun _ hb=>qiO ((h.ext hb).old ha1) hr11) rfl rfl rfl rfl (Y0 3 rfl (dN h fun w17 h=>?_))
  obtain rfl:=qb hF
  exact rG ⟨_,hK3,rfl,h⟩ rfl
 rintro e3 w18 ⟨b2,hF,rfl,h⟩
 subst hKF3
 refine qh rfl hF ?_ ?_<;>intro hF
 ·exact X0 4 rfl (rb h hF rfl)
 refine X1 13 0 h rfl (qh rfl hF ?_ ?_)<;>intro hF
 ·refine X2 6 1 0 h rfl ?_
  obtain ⟨y1,hy1,hF,he1,b3,_,q1,cs3,hp1,hq1,hr5,hc4⟩:=s1.ix hF
  obtain rfl:=qbd hr5
  refine zxe hp1 hq1 he1 rfl (zp1 rfl (zc 3 (hc4.below h.below) rfl (zp2 rfl (qi (t:=83) hF rfl ?_ ?_))))<;>intro hF
  ·exact X1 5 0 h rfl (zcB h hF qas rfl fun r5 w12 h hF=>X0 3 rfl (rb h hF rfl))
  exact X0 6 rfl (rb h hF rfl)
 refine X0 6 rfl ?_
 obtain ⟨KF2,hKF2,o2,hF,hK2⟩:=bindE hF
 refine qbp (fun e w'=>∃ (b4:Bool),KF2 b4=some r∧e=[(2,.pointer (some ⟨bb1,0,none⟩)),(3,.pointer (some ⟨bb2,0,none⟩)),(88,.bool b4)]∧SH w w' [Ch.box bb2 (qfY a_1 p4 p5 k4 k5) 171,Ch.box bb1 (qdt a_0 p1 p2 p3 k1 k2 k3) 166]) ?_ ?_
 ·refine qh rfl hF ?_ ?_<;>intro hF
  ·refine qg1 ?_
   obtain rfl:=qb hF
   exact rG ⟨_,hK2,rfl,h⟩ rfl
  refine X0 4 rfl ?_
  obtain rfl:=qb hF
  exact rG ⟨_,hK2,rfl,h⟩ rfl
 rintro e2 w13 ⟨b4,hF,rfl,h⟩
 subst hKF2
 refine qh rfl hF ?_ ?_<;>intro hF
 ·refine X2 6 1 0 h rfl ?_
  obtain ⟨y2,hy2,hF,he2,b5,_,q2,cs4,hp2,hq2,hr7,hc6⟩:=s1.ix hF
  obtain rfl:=qbd hr7
  refine zxe hp2 hq2 he2 rfl (zp1 rfl (zc 3 (hc6.below h.below) rfl (zp1 rfl (qi (t:=98) hF rfl ?_ ?_))))<;>intro hF
  ·exact X1 9 0 h rfl (rb h hF rfl)
  exact X0 6 rfl (rb h hF rfl)
 exact X0 6 rfl (rb h hF rfl)
def qeC (_:Nat) (a_o:qN) (v0:qN):Option Bool :=
 bif (a_o.Ba==v0.Ba) then
  bif (a_o.Bi==v0.Bi) then some (a_o.To==v0.To) else
  some false
 else
  some false
theorem qla {a_o:qN} {v0:qN} (ha1:GoT.R w (old w) a_o cs1) {p3:Option Addr} (ha2:GoT.R w (old w) (some v0) [.pointer p3]) {r:Bool} (hF:qeC n a_o v0=some r):RetV Tryz.prog 255 [GoT.v qN cs1,.pointer p3] w r:=by
 obtain ⟨p1,k1,p2,k2,rfl,s1,s2⟩:=qX ha1
 obtain ⟨b1,o_1,cs2,rfl,-,hr1,hc1⟩:=PtR.get ha2 rfl
 obtain ⟨p4,k3,p5,k4,rfl,s3,s4⟩:=qX hr1
 refine zV 23 Tryz.func255 rfl fun h=>zSR (qt h rfl rfl fun w1 bb1 h=>X1 7 0 h rfl (zc 0 (hc1.below h.below) rfl (zp2 rfl (qi (t:=9) hF rfl ?_ ?_))))<;>intro hF
 ·refine X1 7 0 h rfl (zc 1 (hc1.below h.below) rfl (X0 4 rfl (qi (t:=16) hF rfl ?_ ?_)))<;>intro hF
  ·exact X1 7 0 h rfl (zc 2 (hc1.below h.below) rfl (X0 5 rfl (rb h hF rfl)))
  exact X0 8 rfl (rb h hF rfl)
 exact X0 15 rfl (rb h hF rfl)
def qI (s:(List qN)) (f_0:qN):Nat→Int→Option (Flow Int Int)
 | 0,_=>none
 | n+1,i1 =>
  bif decide (i1<(s.length:Int)) then
   (idx s i1).bind fun y1 =>
   (qeC n y1 f_0).bind fun r1 =>
   bif r1 then some (.ret i1) else
   qI s f_0 n (W64 (i1+1))
  else
   some (.nxt i1)
def qaS (n:Nat) (s:(List qN)) (f_0:qN):Option Int :=
 (qI s f_0 n 0).bind fun o=>match o with
 | .ret r=>some r
 | .nxt _ =>
  some (-1)
theorem qd2 {s:(List qN)} {f_0:qN} (ha1:GoT.R w (old w) s cs1) {p2:Option Addr} (ha2:GoT.R w (old w) (some f_0) [.pointer p2]) {r:Int} (hF:qaS n s f_0=some r):RetV Tryz.prog 269 [GoT.v (List qN) cs1,.func (.func 255) #[] #[.pointer p2]] w r:=by
 obtain ⟨p1,k1,rfl,s1⟩:=ha1
 obtain ⟨b1,o_1,cs2,rfl,-,hr1,hc1⟩:=PtR.get ha2 rfl
 obtain ⟨p3,k2,p4,k3,rfl,s2,s3⟩:=qX hr1
 refine zV 19 Tryz.func269 rfl fun h=>X0 11 rfl ?_
 obtain ⟨o1,hF,hK1⟩:=qc hF
 refine ql (rL (fun m e w'=>∃ (i1:Int),qI s f_0 m i1=some o1∧e=[(0,.slice p1 s.length k1),(1,.func (.func 255) #[] #[.pointer (some ⟨b1,o_1,none⟩)]),(7,.int .i64 (s.length:Int)),(8,.int .i64 i1)]∧SH w w' []) n ⟨_,hF,rfl,h⟩ rfl ?_)
 rintro m1 e1 w1 ⟨i1,hF,rfl,h⟩
 rcases m1 with _|m1
 ·cases hF
 refine X0 5 rfl (qh rfl hF ?_ ?_)<;>intro hF
 ·refine X0 13 rfl ?_
  obtain ⟨y1,hy1,hF,he1,b2,_,q1,cs3,hp1,hq1,hr2,hc3⟩:=s1.ix hF
  obtain ⟨p5,k4,p6,k5,rfl,s4,s5⟩:=qX hr2
  refine zxe hp1 hq1 he1 rfl (zc 0 (hc3.below h.below) rfl (zcB h hF (qla (qeM y1 (h.oldS s4) (h.oldS s5)) (h.old ha2)) rfl fun r1 w2 h hF=>qct (qh rfl hF ?_ ?_)))<;>intro hF
  ·refine X0 5 rfl ?_
   obtain rfl:=qb hF;replace hF:=hK1
   exact ri h hF rfl
  exact X0 6 rfl (rK ⟨_,hF,rfl,h⟩ rfl)
 refine qr rfl ?_
 obtain rfl:=qb hF;replace hF:=hK1
 exact X0 4 rfl (ri h hF rfl)
def qam (n:Nat) (s:(List qN)) (f_0:qN):Option Bool :=
 (qaS n s f_0).bind fun r1 =>
 some (decide (r1 ≥ 0))
theorem qdO {s:(List qN)} {f_0:qN} (ha1:GoT.R w (old w) s cs1) {p2:Option Addr} (ha2:GoT.R w (old w) (some f_0) [.pointer p2]) {r:Bool} (hF:qam n s f_0=some r):RetV Tryz.prog 254 [GoT.v (List qN) cs1,.func (.func 255) #[] #[.pointer p2]] w r:=by
 obtain ⟨p1,k1,rfl,s1⟩:=ha1
 obtain ⟨b1,o_1,cs2,rfl,-,hr1,hc1⟩:=PtR.get ha2 rfl
 obtain ⟨p3,k2,p4,k3,rfl,s2,s3⟩:=qX hr1
 exact zV 9 Tryz.func254 rfl fun h=>X0 8 rfl (zcI h hF (qd2 ⟨_,_,rfl,(h.oldS s1)⟩ (h.old ha2)) rfl fun r1 w1 h hF=>X0 3 rfl (rb h hF rfl))
def qb8 (c:qz):Nat→Int→Option (Flow Bool Int)
 | 0,_=>none
 | n+1,i1 =>
  bif decide (i1<(c.Am.length:Int)) then
   (idx c.Am i1).bind fun y1 =>
   (qgW n c y1).bind fun r1 =>
   bif (!r1) then some (.ret false) else
   (subS c.Am 0 i1).bind fun x1 =>
   (qam n x1 y1).bind fun r2 =>
   bif r2 then some (.ret false) else
   qb8 c n (W64 (i1+1))
  else
   some (.nxt i1)
def qfN (n:Nat) (c:qz):Option Bool :=
 (qb8 c n 0).bind fun o=>match o with
 | .ret r=>some r
 | .nxt _ =>
  some (decide ((c.Am.length:Int)≤8))
theorem ql2 {c:qz} (ha1:GoT.R w (old w) c cs1) {r:Bool} (hF:qfN n c=some r):RetV Tryz.prog 236 [GoT.v qz cs1] w r:=by
 obtain ⟨p1,k1,p2,k2,p3,k3,rfl,s1,s2,s3⟩:=qW ha1
 refine zV 30 Tryz.func236 rfl fun h=>zSR (qt h rfl rfl fun w1 bb1 h=>X1 10 0 h rfl ?_)
 obtain ⟨o1,hF,hK1⟩:=qc hF
 refine ql (rL (fun m e w'=>∃ (i1:Int),qb8 c m i1=some o1∧e=[(1,.pointer (some ⟨bb1,0,none⟩)),(6,.slice p2 c.Am.length k2),(7,.int .i64 (c.Am.length:Int)),(8,.int .i64 i1)]∧SH w w' [Ch.box bb1 (qdt c p1 p2 p3 k1 k2 k3) 166]) n ⟨_,hF,rfl,h⟩ rfl ?_)
 rintro m1 e1 w2 ⟨i1,hF,rfl,h⟩
 rcases m1 with _|m1
 ·cases hF
 refine X0 5 rfl (qh rfl hF ?_ ?_)<;>intro hF
 ·refine X0 6 rfl ?_
  obtain ⟨y1,hy1,hF,he1,b1,_,q1,cs2,hp1,hq1,hr1,hc2⟩:=s2.ix hF
  obtain ⟨p4,k4,p5,k5,rfl,s4,s5⟩:=qX hr1
  refine zxe hp1 hq1 he1 rfl (zc 0 (hc2.below h.below) rfl (qm qa h rfl rfl rfl fun w3 bb2 h=>zp1 rfl (zs 0 h rfl fun w4 h=>X2 5 1 0 h rfl (zcB h hF (qmX (h.old ha1) (qeM y1 (h.oldS s4) (h.oldS s5))) rfl fun r1 w5 h hF=>zp2 rfl (qi (t:=17) hF rfl ?_ ?_)))))<;>intro hF
  ·refine X0 8 rfl (qbO rfl rfl (X0 4 rfl ?_))
   obtain rfl:=qb hF;replace hF:=hK1
   exact rb h hF rfl
  refine X1 7 1 h rfl ?_
  obtain ⟨x1,hx1,hF⟩:=qc hF
  obtain ⟨p6,k6,hp2,hk1,hl1,g1⟩:=quK (h.oldS s2) hx1
  refine r_v (qrw qa rfl rfl rfl (qvh g1 rfl) hp2 hk1 hl1 rfl rfl rfl rfl) rfl ?_
  have s6:=qvi s2 hx1 hp2 hk1
  refine X0 3 rfl (zcB h hF (qdO ⟨_,_,rfl,(h.oldS s6)⟩ (qhu (x:=y1) 0 h rfl (qeM y1 (h.oldS s4) (h.oldS s5)))) rfl fun r2 w6 h hF=>X0 2 rfl (qh rfl hF ?_ ?_))<;>intro hF
  ·refine X0 4 rfl ?_
   obtain rfl:=qb hF;replace hF:=hK1
   exact rb h hF rfl
  refine X0 6 rfl ?_
  replace h:=h.pick [1] rfl
  exact rK ⟨_,hF,rfl,h⟩ rfl
 refine qr rfl ?_
 obtain rfl:=qb hF;replace hF:=hK1
 exact X1 8 0 h rfl (rb h hF rfl)
def qiV (_:Nat) (a:qN) (v0:Int):Option Bool :=
 some (a.Ba==v0)
theorem qmN {a:qN} {v0:Int} (ha1:GoT.R w (old w) a cs1) {p3:Option Addr} (ha2:GoT.R w (old w) (some v0) [.pointer p3]) {r:Bool} (hF:qiV n a v0=some r):RetV Tryz.prog 270 [GoT.v qN cs1,.pointer p3] w r:=by
 obtain ⟨p1,k1,p2,k2,rfl,s1,s2⟩:=qX ha1
 obtain ⟨b1,o_1,cs2,rfl,-,hr1,hc1⟩:=PtR.get ha2 rfl
 obtain rfl:=hr1
 exact zV 8 Tryz.func270 rfl fun h=>zSR (qt h rfl rfl fun w1 bb1 h=>X1 6 0 h rfl (zc 0 (hc1.below h.below) rfl (X0 3 rfl (rb h hF rfl))))
def qS (s:(List qN)) (f_0:Int):Nat→Int→Option (Flow Int Int)
 | 0,_=>none
 | n+1,i1 =>
  bif decide (i1<(s.length:Int)) then
   (idx s i1).bind fun y1 =>
   (qiV n y1 f_0).bind fun r1 =>
   bif r1 then some (.ret i1) else
   qS s f_0 n (W64 (i1+1))
  else
   some (.nxt i1)
def qbg (n:Nat) (s:(List qN)) (f_0:Int):Option Int :=
 (qS s f_0 n 0).bind fun o=>match o with
 | .ret r=>some r
 | .nxt _ =>
  some (-1)
theorem qeW {s:(List qN)} {f_0:Int} (ha1:GoT.R w (old w) s cs1) {p2:Option Addr} (ha2:GoT.R w (old w) (some f_0) [.pointer p2]) {r:Int} (hF:qbg n s f_0=some r):RetV Tryz.prog 269 [GoT.v (List qN) cs1,.func (.func 270) #[] #[.pointer p2]] w r:=by
 obtain ⟨p1,k1,rfl,s1⟩:=ha1
 obtain ⟨b1,o_1,cs2,rfl,-,hr1,hc1⟩:=PtR.get ha2 rfl
 obtain rfl:=hr1
 refine zV 19 Tryz.func269 rfl fun h=>X0 11 rfl ?_
 obtain ⟨o1,hF,hK1⟩:=qc hF
 refine ql (rL (fun m e w'=>∃ (i1:Int),qS s f_0 m i1=some o1∧e=[(0,.slice p1 s.length k1),(1,.func (.func 270) #[] #[.pointer (some ⟨b1,o_1,none⟩)]),(7,.int .i64 (s.length:Int)),(8,.int .i64 i1)]∧SH w w' []) n ⟨_,hF,rfl,h⟩ rfl ?_)
 rintro m1 e1 w1 ⟨i1,hF,rfl,h⟩
 rcases m1 with _|m1
 ·cases hF
 refine X0 5 rfl (qh rfl hF ?_ ?_)<;>intro hF
 ·refine X0 13 rfl ?_
  obtain ⟨y1,hy1,hF,he1,b2,_,q1,cs3,hp1,hq1,hr2,hc3⟩:=s1.ix hF
  obtain ⟨p3,k2,p4,k3,rfl,s2,s3⟩:=qX hr2
  refine zxe hp1 hq1 he1 rfl (zc 0 (hc3.below h.below) rfl (zcB h hF (qmN (qeM y1 (h.oldS s2) (h.oldS s3)) (h.old ha2)) rfl fun r1 w2 h hF=>qct (qh rfl hF ?_ ?_)))<;>intro hF
  ·refine X0 5 rfl ?_
   obtain rfl:=qb hF;replace hF:=hK1
   exact ri h hF rfl
  exact X0 6 rfl (rK ⟨_,hF,rfl,h⟩ rfl)
 refine qr rfl ?_
 obtain rfl:=qb hF;replace hF:=hK1
 exact X0 4 rfl (ri h hF rfl)
def qaW (n:Nat) (s:(List qN)) (f_0:Int):Option Bool :=
 (qbg n s f_0).bind fun r1 =>
 some (decide (r1 ≥ 0))
theorem qer {s:(List qN)} {f_0:Int} (ha1:GoT.R w (old w) s cs1) {p2:Option Addr} (ha2:GoT.R w (old w) (some f_0) [.pointer p2]) {r:Bool} (hF:qaW n s f_0=some r):RetV Tryz.prog 254 [GoT.v (List qN) cs1,.func (.func 270) #[] #[.pointer p2]] w r:=by
 obtain ⟨p1,k1,rfl,s1⟩:=ha1
 obtain ⟨b1,o_1,cs2,rfl,-,hr1,hc1⟩:=PtR.get ha2 rfl
 obtain rfl:=hr1
 exact zV 9 Tryz.func254 rfl fun h=>X0 8 rfl (zcI h hF (qeW ⟨_,_,rfl,(h.oldS s1)⟩ (h.old ha2)) rfl fun r1 w1 h hF=>X0 3 rfl (rb h hF rfl))
def qcU (n:Nat) (c:qz) (kind:Int):Option Bool :=
 (qaW n c.Am kind).bind fun r1 =>
 some r1
theorem qdI {c:qz} {kind:Int} (ha1:GoT.R w (old w) c cs1) {r:Bool} (hF:qcU n c kind=some r):RetV Tryz.prog 257 [GoT.v qz cs1,.int .i64 kind] w r:=by
 obtain ⟨p1,k1,p2,k2,p3,k3,rfl,s1,s2,s3⟩:=qW ha1
 exact zV 9 Tryz.func257 rfl fun h=>zSR (qt h rfl rfl fun w1 bb1 h=>qt h rfl rfl fun w2 bb2 h=>X1 7 1 h rfl (zcB h hF (qer ⟨_,_,rfl,(h.oldS s2)⟩ (qhu (x:=kind) 0 h rfl rfl)) rfl fun r1 w3 h hF=>X0 2 rfl (rb h hF rfl)))
def qaT (a_0:qz):Nat→Int→Int→Option (Int × Int)
 | 0,_,_=>none
 | n+1,i1,i2 =>
  bif decide (i2<(a_0.Az.length:Int)) then
   (idx a_0.Az i2).bind fun y1 =>
   bif y1.Bp then qaT a_0 n (W64 (i1+1)) (W64 (i2+1)) else
   qaT a_0 n i1 (W64 (i2+1))
  else
   some (i1,i2)
def qe5 (n:Nat) (a_0:qz):Option Bool :=
 (qaT a_0 n 0 0).bind fun o=>match o with
 | (i1,_) =>
  bif (a_0.Ba==1) then
   bif (i1==0) then
    (qdG n a_0).bind fun r1 =>
    (shlS 1 r1).bind fun y2 =>
    bif ((a_0.Br.length:Int)==y2) then
     (qbS n a_0.Br 0 1).bind fun r2 =>
     some r2
    else
     some false
   else
    some false
  else
   bif (a_0.Ba==2) then
    bif (i1==1) then
     bif ((a_0.Br.length:Int)==0) then
      (qcU n a_0 1).bind fun r3 =>
      bif (!r3) then
       (qcU n a_0 2).bind fun r4 =>
       (qcU n a_0 3).bind fun r5 =>
       some (!(r4==r5))
      else
       some false
     else
      some false
    else
     some false
   else
    bif (a_0.Ba==3) then
     bif (i1==1) then
      bif ((a_0.Br.length:Int)==0) then
       (qcU n a_0 1).bind fun r6 =>
       bif r6 then
        (qcU n a_0 2).bind fun r7 =>
        bif r7 then
         (qcU n a_0 3).bind fun r8 =>
         some (!r8)
        else
         some false
       else
        some false
      else
       some false
     else
      some false
    else
     some false
theorem qlE {a_0:qz} (ha1:GoT.R w (old w) a_0 cs1) {r:Bool} (hF:qe5 n a_0=some r):RetV Tryz.prog 237 [GoT.v qz cs1] w r:=by
 obtain ⟨p1,k1,p2,k2,p3,k3,rfl,s1,s2,s3⟩:=qW ha1
 refine zV 83 Tryz.func237 rfl fun h=>zSR (qt h rfl rfl fun w1 bb1 h=>X1 14 0 h rfl ?_)
 obtain ⟨o1,hF,hK1⟩:=qc hF
 refine ql (rL (fun m e w'=>∃ (i1:Int) (i2:Int),qaT a_0 m i1 i2=some o1∧e=[(1,.pointer (some ⟨bb1,0,none⟩)),(3,.int .i64 i1),(7,.slice p1 a_0.Az.length k1),(8,.int .i64 (a_0.Az.length:Int)),(9,.int .i64 i2)]∧SH w w' [Ch.box bb1 (qdt a_0 p1 p2 p3 k1 k2 k3) 166]) n ⟨_,_,hF,rfl,h⟩ rfl ?_)
 rintro m1 e1 w2 ⟨i1,i2,hF,rfl,h⟩
 rcases m1 with _|m1
 ·cases hF
 refine X0 5 rfl (qh rfl hF ?_ ?_)<;>intro hF
 ·refine zKSBSR ?_
  obtain ⟨y1,hy1,hF,he1,b1,_,q1,cs2,hp1,hq1,hr1,hc2⟩:=s1.ix hF
  obtain rfl:=qbd hr1
  refine zxe hp1 hq1 he1 rfl (zc 0 (hc2.below h.below) rfl (qm qa h rfl rfl rfl fun w3 bb2 h=>zs 0 h rfl fun w4 h=>X1 6 0 h rfl (qh rfl hF ?_ ?_)))<;>intro hF
  ·refine X0 10 rfl ?_
   replace h:=h.pick [1] rfl
   exact rK ⟨_,_,hF,rfl,h⟩ rfl
  refine X0 6 rfl ?_
  replace h:=h.pick [1] rfl
  exact rK ⟨_,_,hF,rfl,h⟩ rfl
 refine qr rfl ?_
 obtain rfl:=qb hF;replace hF:=hK1
 refine X1 12 0 h rfl (qh rfl hF ?_ ?_)<;>intro hF
 ·refine qcA (rD (zd3 rfl (qaR (t:=24) hF rfl ?_ ?_)))<;>intro hF
  ·refine Y1 4 0 h rfl ?_
   refine Y1 4 0 h rfl ?_
   refine Y0 1 rfl ?_
   obtain ⟨r1,hr2,hF⟩:=qc hF
   refine qa8 r1 (vsI _) (cB 256 rfl) (fun _ hb=>qgA ((h.ext hb).old ha1) hr2) rfl rfl rfl rfl (Y0 1 rfl ?_)
   obtain ⟨y2,hx1,hF⟩:=qc hF
   obtain ⟨g1,hx1⟩:=qqh hx1
   refine d_v (fun _ hb=>qwv g1 rfl rfl) rfl ?_
   rw [hx1]
   refine Y0 4 rfl (qaR (t:=33) hF rfl ?_ ?_)<;>intro hF
   ·refine Y1 4 0 h rfl ?_
    refine Y0 1 rfl ?_
    obtain ⟨r2,hr3,hF⟩:=qc hF
    exact qa8 r2 (vsB _) (cB 62 rfl) (fun _ hb=>qck ⟨_,_,rfl,((h.ext hb).oldS s3)⟩ hr3) rfl rfl rfl rfl (zd2 rfl (dN h fun w5 h=>rb h hF rfl))
   exact Y0 5 rfl (dN h fun w6 h=>rb h hF rfl)
  exact Y0 14 rfl (dN h fun w7 h=>rb h hF rfl)
 refine X0 5 rfl (qh rfl hF ?_ ?_)<;>intro hF
 ·refine qcA (rD (zd3 rfl (qaR (t:=42) hF rfl ?_ ?_)))<;>intro hF
  ·refine Y1 4 0 h rfl ?_
   refine Y0 6 rfl (qaR (t:=48) hF rfl ?_ ?_)<;>intro hF
   ·refine Y1 2 0 h rfl ?_
    refine Y0 1 rfl ?_
    obtain ⟨r3,hr4,hF⟩:=qc hF
    refine qa8 r3 (vsB _) (cB 257 rfl) (fun _ hb=>qdI ((h.ext hb).old ha1) hr4) rfl rfl rfl rfl (Y0 4 rfl (qaR (t:=53) hF rfl ?_ ?_))<;>intro hF
    ·refine Y1 2 0 h rfl ?_
     refine Y0 1 rfl ?_
     obtain ⟨r4,hr5,hF⟩:=qc hF
     refine qa8 r4 (vsB _) (cB 257 rfl) (fun _ hb=>qdI ((h.ext hb).old ha1) hr5) rfl rfl rfl rfl (Y1 2 0 h rfl ?_)
     refine Y0 1 rfl ?_
     obtain ⟨r5,hr6,hF⟩:=qc hF
     exact qa8 r5 (vsB _) (cB 257 rfl) (fun _ hb=>qdI ((h.ext hb).old ha1) hr6) rfl rfl rfl rfl (Y0 4 rfl (dN h fun w8 h=>rb h hF rfl))
    exact Y0 7 rfl (dN h fun w9 h=>rb h hF rfl)
   exact Y0 12 rfl (dN h fun w10 h=>rb h hF rfl)
  exact Y0 18 rfl (dN h fun w11 h=>rb h hF rfl)
 refine X0 5 rfl (qh rfl hF ?_ ?_)<;>intro hF
 ·refine X0 5 rfl (qi (t:=64) hF rfl ?_ ?_)<;>intro hF
  ·refine X1 10 0 h rfl (qi (t:=70) hF rfl ?_ ?_)<;>intro hF
   ·refine X1 3 0 h rfl (zcB h hF (qdI (h.old ha1)) rfl fun r6 w12 h hF=>zp2 rfl (qi (t:=74) hF rfl ?_ ?_))<;>intro hF
    ·refine X1 3 0 h rfl (zcB h hF (qdI (h.old ha1)) rfl fun r7 w13 h hF=>zp2 rfl (qi (t:=78) hF rfl ?_ ?_))<;>intro hF
     ·exact X1 3 0 h rfl (zcB h hF (qdI (h.old ha1)) rfl fun r8 w14 h hF=>X0 5 rfl (rb h hF rfl))
     exact X0 6 rfl (rb h hF rfl)
    exact X0 10 rfl (rb h hF rfl)
   exact X0 14 rfl (rb h hF rfl)
  exact X0 20 rfl (rb h hF rfl)
 exact X0 6 rfl (rb h hF rfl)
def qkq (n:Nat) (c:qz):Option Bool :=
 (qhc n c.Av).bind fun r1 =>
 bif r1 then
  (qjk n c.Az).bind fun r2 =>
  bif r2 then
   (qfN n c).bind fun r3 =>
   bif r3 then
    (qaF n c.Ca 0 100000).bind fun r4 =>
    bif r4 then
     (qaF n c.Bu 0 100000).bind fun r5 =>
     bif r5 then
      (qe5 n c).bind fun r6 =>
      some r6
     else
      some false
    else
     some false
   else
    some false
  else
   some false
 else
  some false
theorem qpK {c:qz} (ha1:GoT.R w (old w) c cs1) {r:Bool} (hF:qkq n c=some r):RetV Tryz.prog 204 [GoT.v qz cs1] w r:=by
 obtain ⟨p1,k1,p2,k2,p3,k3,rfl,s1,s2,s3⟩:=qW ha1
 refine zV 29 Tryz.func204 rfl fun h=>zSR (qt h rfl rfl fun w1 bb1 h=>X1 6 0 h rfl (zcB h hF qjH rfl fun r1 w2 h hF=>zp1 rfl (qi (t:=6) hF rfl ?_ ?_)))<;>intro hF
 ·refine X1 5 0 h rfl (zcB h hF (qoz ⟨_,_,rfl,(h.oldS s1)⟩) rfl fun r2 w3 h hF=>zp2 rfl (qi (t:=11) hF rfl ?_ ?_))<;>intro hF
  ·refine X1 3 0 h rfl (zcB h hF (ql2 (h.old ha1)) rfl fun r3 w4 h hF=>zp2 rfl (qi (t:=15) hF rfl ?_ ?_))<;>intro hF
   ·refine X1 5 0 h rfl (zcB h hF qas rfl fun r4 w5 h hF=>zp2 rfl (qi (t:=20) hF rfl ?_ ?_))<;>intro hF
    ·refine X1 5 0 h rfl (zcB h hF qas rfl fun r5 w6 h hF=>zp2 rfl (qi (t:=25) hF rfl ?_ ?_))<;>intro hF
     ·exact X1 3 0 h rfl (zcB h hF (qlE (h.old ha1)) rfl fun r6 w7 h hF=>X0 3 rfl (rb h hF rfl))
     exact X0 5 rfl (rb h hF rfl)
    exact X0 10 rfl (rb h hF rfl)
   exact X0 15 rfl (rb h hF rfl)
  exact X0 19 rfl (rb h hF rfl)
 exact X0 24 rfl (rb h hF rfl)
def qcc (l:qp):Nat→(List ByteArray)→Int→Option (Flow Bool ((List ByteArray) × Int))
 | 0,_,_=>none
 | n+1,x1,i1 =>
  bif decide (i1<(l.Ap.length:Int)) then
   (idx l.Ap i1).bind fun y1 =>
   (qkq n y1).bind fun r1 =>
   bif (!r1) then some (.ret false) else
   (appS x1 ([y1.Av]:List ByteArray)).bind fun x2 =>
   qcc l n x2 (W64 (i1+1))
  else
   some (.nxt (x1,i1))
def qhs (n:Nat) (l:qp):Option Bool :=
 (qcc l n ([]:List ByteArray) 0).bind fun o=>match o with
 | .ret r=>some r
 | .nxt (x1,_) =>
  bif decide ((l.Ap.length:Int)≤8) then
   (qdA n x1).bind fun r2 =>
   some r2
  else
   some false
theorem qnB {l:qp} (ha1:GoT.R w (old w) l cs1) {r:Bool} (hF:qhs n l=some r):RetV Tryz.prog 170 [GoT.v qp cs1] w r:=by
 obtain ⟨p1,k1,rfl,s1⟩:=qbi ha1
 refine zV 30 Tryz.func170 rfl fun h=>zSR (qt h rfl rfl fun w1 bb1 h=>X1 14 0 h rfl ?_)
 replace h:=h.nil (α:=ByteArray)
 obtain ⟨o1,hF,hK1⟩:=qc hF
 refine ql (rL (fun m e w'=>∃ (S1:Nat→Prop) (p2:Option Addr) (ln1:Nat) (k2:Nat) (x1:(List ByteArray)) (i1:Int),qcc l m x1 i1=some o1∧e=[(1,.pointer (some ⟨bb1,0,none⟩)),(3,.slice p2 ln1 k2),(7,.slice p1 l.Ap.length k1),(8,.int .i64 (l.Ap.length:Int)),(9,.int .i64 i1)]∧SH w w' [Ch.own S1 (x1:List ByteArray) [.slice p2 ln1 k2],Ch.box bb1 [.slice p1 l.Ap.length k1] 43]) n ⟨_,_,_,_,_,_,hF,rfl,h⟩ rfl ?_)
 rintro m1 e1 w2 ⟨S1,p2,ln1,k2,x1,i1,hF,rfl,h⟩
 obtain rfl:=(h.sl 0 rfl).2
 rcases m1 with _|m1
 ·cases hF
 refine X0 5 rfl (qh rfl hF ?_ ?_)<;>intro hF
 ·refine zKSBSR ?_
  obtain ⟨y1,hy1,hF,he1,b1,_,q1,cs2,hp1,hq1,hr1,hc2⟩:=s1.ix hF
  obtain ⟨p3,k3,p4,k4,p5,k5,rfl,s2,s3,s4⟩:=qW hr1
  refine zxe hp1 hq1 he1 rfl (zc 0 (hc2.below h.below) rfl (qm qa h rfl rfl rfl fun w3 bb2 h=>zs 0 h rfl fun w4 h=>X1 5 0 h rfl (zcB h hF (qpK (qjo y1 (h.oldS s2) (h.oldS s3) (h.oldS s4))) rfl fun r1 w5 h hF=>X0 2 rfl (qh rfl hF ?_ ?_))))<;>intro hF
  ·refine X0 4 rfl ?_
   obtain rfl:=qb hF;replace hF:=hK1
   exact rb h hF rfl
  refine X1 5 0 h rfl (qQ qa [.tmp 18] _ ([y1.Av]:List ByteArray) h rfl rfl rfl rfl rfl rfl rfl rfl rfl ⟨rfl,trivial⟩ rfl fun w6 p6 S2 h=>?_)
  obtain ⟨x2,hx1,hF⟩:=qc hF
  obtain ⟨g1,hx1⟩:=qar hx1
  refine qcD qa 2 h rfl (h.sl 0 rfl).1 (h.sl 0 rfl).2 rfl rfl rfl rfl rfl rfl rfl rfl rfl g1 hx1 rfl fun w7 p7 k6 S3 h=>X0 7 rfl ?_
  replace h:=h.pick [2,3] rfl
  exact rK ⟨_,_,_,_,_,_,hF,rfl,h⟩ rfl
 refine qr rfl ?_
 obtain rfl:=qb hF;replace hF:=hK1
 refine X1 7 1 h rfl (qi (t:=26) hF rfl ?_ ?_)<;>intro hF
 ·exact X0 3 rfl (zcB h hF (qeI (h.own 0 rfl)) rfl fun r2 w8 h hF=>X0 3 rfl (rb h hF rfl))
 exact X0 5 rfl (rb h hF rfl)
def qa0 (d:qd):Nat→(List ByteArray)→Int→Option ((List ByteArray) × Int)
 | 0,_,_=>none
 | n+1,x3,i2 =>
  bif decide (i2<(d.Ah.length:Int)) then
   (idx d.Ah i2).bind fun y2 =>
   (appS x3 ([y2.Av]:List ByteArray)).bind fun x4 =>
   qa0 d n x4 (W64 (i2+1))
  else
   some (x3,i2)
def qa5 (d:qd):Nat→(List ByteArray)→Int→Option ((List ByteArray) × Int)
 | 0,_,_=>none
 | n+1,x1,i1 =>
  bif decide (i1<(d.Aa.length:Int)) then
   (idx d.Aa i1).bind fun y1 =>
   (appS x1 ([y1.Av]:List ByteArray)).bind fun x2 =>
   qa5 d n x2 (W64 (i1+1))
  else
   some (x1,i1)
def qei (n:Nat) (d:qd):Option Bool :=
 (qa5 d n ([]:List ByteArray) 0).bind fun o=>match o with
 | (x1,_) =>
  (qa0 d n ([]:List ByteArray) 0).bind fun o=>match o with
  | (x3,_) =>
   bif decide ((x1.length:Int)≤14) then
    bif decide ((d.Aj.length:Int)≤30) then
     bif decide ((x3.length:Int)≤8) then
      (qdA n x1).bind fun r1 =>
      bif r1 then
       (qdA n d.Aj).bind fun r2 =>
       bif r2 then
        (qdA n x3).bind fun r3 =>
        some r3
       else
        some false
      else
       some false
     else
      some false
    else
     some false
   else
    some false
theorem qkI {d:qd} (ha1:GoT.R w (old w) d cs1) {r:Bool} (hF:qei n d=some r):RetV Tryz.prog 171 [GoT.v qd cs1] w r:=by
 obtain ⟨p1,k1,p2,k2,p3,k3,rfl,s1,s2,s3⟩:=qan ha1
 refine zV 62 Tryz.func171 rfl fun h=>zSR (qt h rfl rfl fun w1 bb1 h=>X1 15 0 h rfl ?_)
 replace h:=h.nil (α:=ByteArray)
 obtain ⟨o1,hF,hK1⟩:=qc hF
 refine ql (rL (fun m e w'=>∃ (S1:Nat→Prop) (p4:Option Addr) (ln1:Nat) (k4:Nat) (x1:(List ByteArray)) (i1:Int),qa5 d m x1 i1=some o1∧e=[(1,.pointer (some ⟨bb1,0,none⟩)),(3,.slice p4 ln1 k4),(4,.slice none 0 0),(10,.slice p1 d.Aa.length k1),(11,.int .i64 (d.Aa.length:Int)),(12,.int .i64 i1)]∧SH w w' [Ch.own S1 (x1:List ByteArray) [.slice p4 ln1 k4],Ch.box bb1 (qaz d p1 p2 p3 k1 k2 k3) 47]) n ⟨_,_,_,_,_,_,hF,rfl,h⟩ rfl ?_)
 rintro m1 e1 w2 ⟨S1,p4,ln1,k4,x1,i1,hF,rfl,h⟩
 obtain rfl:=(h.sl 0 rfl).2
 rcases m1 with _|m1
 ·cases hF
 refine X0 5 rfl (qh rfl hF ?_ ?_)<;>intro hF
 ·refine zKSBSR ?_
  obtain ⟨y1,hy1,hF,he1,b1,_,q1,cs2,hp1,hq1,hr1,hc2⟩:=s1.ix hF
  obtain ⟨p5,k5,rfl,s4⟩:=qM hr1
  refine zxe hp1 hq1 he1 rfl (zc 0 (hc2.below h.below) rfl (qm qa h rfl rfl rfl fun w3 bb2 h=>zs 0 h rfl fun w4 h=>X1 5 0 h rfl (qQ qa [.tmp 18] _ ([y1.Av]:List ByteArray) h rfl rfl rfl rfl rfl rfl rfl rfl rfl ⟨rfl,trivial⟩ rfl fun w5 p6 S2 h=>?_)))
  obtain ⟨x2,hx1,hF⟩:=qc hF
  obtain ⟨g1,hx1⟩:=qar hx1
  refine qcD qa 2 h rfl (h.sl 0 rfl).1 (h.sl 0 rfl).2 rfl rfl rfl rfl rfl rfl rfl rfl rfl g1 hx1 rfl fun w6 p7 k6 S3 h=>X0 7 rfl ?_
  replace h:=h.pick [2,3] rfl
  exact rK ⟨_,_,_,_,_,_,hF,rfl,h⟩ rfl
 refine qr rfl ?_
 obtain rfl:=qb hF;replace hF:=hK1
 refine X1 8 1 h rfl ?_
 replace h:=h.nil (α:=ByteArray)
 obtain ⟨o2,hF,hK2⟩:=qc hF
 refine ql (rL (fun m e w'=>∃ (S4:Nat→Prop) (p8:Option Addr) (ln2:Nat) (k7:Nat) (x3:(List ByteArray)) (i2:Int),qa0 d m x3 i2=some o2∧e=[(1,.pointer (some ⟨bb1,0,none⟩)),(3,.slice p4 x1.length k4),(4,.slice p8 ln2 k7),(23,.slice p3 d.Ah.length k3),(24,.int .i64 (d.Ah.length:Int)),(25,.int .i64 i2)]∧SH w w' [Ch.own S4 (x3:List ByteArray) [.slice p8 ln2 k7],Ch.own S1 (x1:List ByteArray) [.slice p4 x1.length k4],Ch.box bb1 (qaz d p1 p2 p3 k1 k2 k3) 47]) n ⟨_,_,_,_,_,_,hF,rfl,h⟩ rfl ?_)
 rintro m2 e2 w7 ⟨S4,p8,ln2,k7,x3,i2,hF,rfl,h⟩
 obtain rfl:=(h.sl 0 rfl).2
 rcases m2 with _|m2
 ·cases hF
 refine X0 5 rfl (qh rfl hF ?_ ?_)<;>intro hF
 ·refine zKSBSR ?_
  obtain ⟨y2,hy2,hF,he2,b2,_,q2,cs3,hp2,hq2,hr2,hc4⟩:=s3.ix hF
  obtain rfl:=qa1 hr2
  refine zxe hp2 hq2 he2 rfl (zc 0 (hc4.below h.below) rfl (qm qa h rfl rfl rfl fun w8 bb3 h=>zs 0 h rfl fun w9 h=>X1 5 0 h rfl (qQ qa [.tmp 31] _ ([y2.Av]:List ByteArray) h rfl rfl rfl rfl rfl rfl rfl rfl rfl ⟨rfl,trivial⟩ rfl fun w10 p9 S5 h=>?_)))
  obtain ⟨x4,hx2,hF⟩:=qc hF
  obtain ⟨g2,hx2⟩:=qar hx2
  refine qcD qa 2 h rfl (h.sl 0 rfl).1 (h.sl 0 rfl).2 rfl rfl rfl rfl rfl rfl rfl rfl rfl g2 hx2 rfl fun w11 p10 k8 S6 h=>X0 7 rfl ?_
  replace h:=h.pick [2,3,4] rfl
  exact rK ⟨_,_,_,_,_,_,hF,rfl,h⟩ rfl
 refine qr rfl ?_
 obtain rfl:=qb hF;replace hF:=hK2
 refine X0 6 rfl (qi (t:=38) hF rfl ?_ ?_)<;>intro hF
 ·refine X1 10 2 h rfl (qi (t:=44) hF rfl ?_ ?_)<;>intro hF
  ·refine X0 8 rfl (qi (t:=49) hF rfl ?_ ?_)<;>intro hF
   ·refine X0 3 rfl (zcB h hF (qeI (h.own 1 rfl)) rfl fun r1 w12 h hF=>zp2 rfl (qi (t:=53) hF rfl ?_ ?_))<;>intro hF
    ·refine X1 5 2 h rfl (zcB h hF (qeI ⟨_,_,rfl,(h.oldS s2)⟩) rfl fun r2 w13 h hF=>zp2 rfl (qi (t:=58) hF rfl ?_ ?_))<;>intro hF
     ·exact X0 3 rfl (zcB h hF (qeI (h.own 0 rfl)) rfl fun r3 w14 h hF=>X0 3 rfl (rb h hF rfl))
     exact X0 5 rfl (rb h hF rfl)
    exact X0 10 rfl (rb h hF rfl)
   exact X0 14 rfl (rb h hF rfl)
  exact X0 19 rfl (rb h hF rfl)
 exact X0 25 rfl (rb h hF rfl)
def qfG (_:Nat) (list:(List qz)):Option Int :=
 some (list.length:Int)
theorem qkw {list:(List qz)} (ha1:GoT.R w (old w) list cs1) {r:Int} (hF:qfG n list=some r):RetV Tryz.prog 206 [GoT.v (List qz) cs1] w r:=by
 obtain ⟨p1,k1,rfl,s1⟩:=ha1
 exact zV 5 Tryz.func206 rfl fun h=>X0 10 rfl (ri h hF rfl)
def qg5 (_:Nat) (list:(List ByteArray)):Option Int :=
 some (list.length:Int)
theorem qlF {list:(List ByteArray)} (ha1:GoT.R w (old w) list cs1) {r:Int} (hF:qg5 n list=some r):RetV Tryz.prog 208 [GoT.v (List ByteArray) cs1] w r:=by
 obtain ⟨p1,k1,rfl,s1⟩:=ha1
 exact zV 5 Tryz.func208 rfl fun h=>X0 10 rfl (ri h hF rfl)
def qc6 (n:Nat) (d:qd) (net:Int):Option Bool :=
 (qg5 n d.Aj).bind fun r1 =>
 (qaF n net 0 (W64 (r1-1))).bind fun r2 =>
 some r2
theorem qf5 {d:qd} {net:Int} (ha1:GoT.R w (old w) d cs1) {r:Bool} (hF:qc6 n d net=some r):RetV Tryz.prog 173 [GoT.v qd cs1,.int .i64 net] w r:=by
 obtain ⟨p1,k1,p2,k2,p3,k3,rfl,s1,s2,s3⟩:=qan ha1
 exact zV 11 Tryz.func173 rfl fun h=>zSR (qt h rfl rfl fun w1 bb1 h=>X1 7 0 h rfl (zcI h hF (qlF ⟨_,_,rfl,(h.oldS s2)⟩) rfl fun r1 w2 h hF=>zp1 rfl (zcB h hF qas rfl fun r2 w3 h hF=>X0 2 rfl (rb h hF rfl))))
def qcV (n:Nat) (net:Int) (v0:qd):Option Bool :=
 (qc6 n v0 net).bind fun r1 =>
 some (!r1)
theorem qi4 {net:Int} {v0:qd} {p1:Option Addr} (ha1:GoT.R w (old w) (some v0) [.pointer p1]) {r:Bool} (hF:qcV n net v0=some r):RetV Tryz.prog 207 [.int .i64 net,.pointer p1] w r:=by
 obtain ⟨b1,o_1,cs1,rfl,-,hr1,hc1⟩:=PtR.get ha1 rfl
 obtain ⟨p2,k1,p3,k2,p4,k3,rfl,s1,s2,s3⟩:=qan hr1
 exact zV 8 Tryz.func207 rfl fun h=>X0 6 rfl (zc 0 (hc1.below h.below) rfl (zp1 rfl (zcB h hF (qf5 (qak v0 (h.oldS s1) (h.oldS s2) (h.oldS s3))) rfl fun r1 w1 h hF=>X0 3 rfl (rb h hF rfl))))
def qG (s:(List Int)) (f_0:qd):Nat→Int→Option (Flow Int Int)
 | 0,_=>none
 | n+1,i1 =>
  bif decide (i1<(s.length:Int)) then
   (idx s i1).bind fun y1 =>
   (qcV n y1 f_0).bind fun r1 =>
   bif r1 then some (.ret i1) else
   qG s f_0 n (W64 (i1+1))
  else
   some (.nxt i1)
def qaQ (n:Nat) (s:(List Int)) (f_0:qd):Option Int :=
 (qG s f_0 n 0).bind fun o=>match o with
 | .ret r=>some r
 | .nxt _ =>
  some (-1)
theorem qdS {s:(List Int)} {f_0:qd} (ha1:GoT.R w (old w) s cs1) {p2:Option Addr} (ha2:GoT.R w (old w) (some f_0) [.pointer p2]) {r:Int} (hF:qaQ n s f_0=some r):RetV Tryz.prog 160 [GoT.v (List Int) cs1,.func (.func 207) #[] #[.pointer p2]] w r:=by
 obtain ⟨p1,k1,rfl,s1⟩:=ha1
 obtain ⟨b1,o_1,cs2,rfl,-,hr1,hc1⟩:=PtR.get ha2 rfl
 obtain ⟨p3,k2,p4,k3,p5,k4,rfl,s2,s3,s4⟩:=qan hr1
 refine zV 19 Tryz.func160 rfl fun h=>X0 11 rfl ?_
 obtain ⟨o1,hF,hK1⟩:=qc hF
 refine ql (rL (fun m e w'=>∃ (i1:Int),qG s f_0 m i1=some o1∧e=[(0,.slice p1 s.length k1),(1,.func (.func 207) #[] #[.pointer (some ⟨b1,o_1,none⟩)]),(7,.int .i64 (s.length:Int)),(8,.int .i64 i1)]∧SH w w' []) n ⟨_,hF,rfl,h⟩ rfl ?_)
 rintro m1 e1 w1 ⟨i1,hF,rfl,h⟩
 rcases m1 with _|m1
 ·cases hF
 refine X0 5 rfl (qh rfl hF ?_ ?_)<;>intro hF
 ·refine X0 13 rfl ?_
  obtain ⟨y1,hy1,hF,he1,b2,_,q1,cs3,hp1,hq1,rfl,hc3⟩:=s1.ix hF
  refine zxe hp1 hq1 he1 rfl (zc 0 (hc3.below h.below) rfl (zcB h hF (qi4 (h.old ha2)) rfl fun r1 w2 h hF=>qct (qh rfl hF ?_ ?_)))<;>intro hF
  ·refine X0 5 rfl ?_
   obtain rfl:=qb hF;replace hF:=hK1
   exact ri h hF rfl
  exact X0 6 rfl (rK ⟨_,hF,rfl,h⟩ rfl)
 refine qr rfl ?_
 obtain rfl:=qb hF;replace hF:=hK1
 exact X0 4 rfl (ri h hF rfl)
def qaA (n:Nat) (s:(List Int)) (f_0:qd):Option Bool :=
 (qaQ n s f_0).bind fun r1 =>
 some (decide (r1 ≥ 0))
theorem qdq {s:(List Int)} {f_0:qd} (ha1:GoT.R w (old w) s cs1) {p2:Option Addr} (ha2:GoT.R w (old w) (some f_0) [.pointer p2]) {r:Bool} (hF:qaA n s f_0=some r):RetV Tryz.prog 111 [GoT.v (List Int) cs1,.func (.func 207) #[] #[.pointer p2]] w r:=by
 obtain ⟨p1,k1,rfl,s1⟩:=ha1
 obtain ⟨b1,o_1,cs2,rfl,-,hr1,hc1⟩:=PtR.get ha2 rfl
 obtain ⟨p3,k2,p4,k3,p5,k4,rfl,s2,s3,s4⟩:=qan hr1
 exact zV 9 Tryz.func111 rfl fun h=>X0 8 rfl (zcI h hF (qdS ⟨_,_,rfl,(h.oldS s1)⟩ (h.old ha2)) rfl fun r1 w1 h hF=>X0 3 rfl (rb h hF rfl))
def qdw (n:Nat) (d:qd) (l:qp) (x:qn):Option Bool :=
 (qfG n l.Ap).bind fun r1 =>
 (qaF n x.Bs 0 (W64 (r1-1))).bind fun r2 =>
 bif r2 then
  (idx l.Ap x.Bs).bind fun y1 =>
  bif ((x.Aj.length:Int)==(y1.Az.length:Int)) then
   (qaA n x.Aj d).bind fun r3 =>
   some (!r3)
  else
   some false
 else
  some false
theorem qj2 {d:qd} {l:qp} {x:qn} (ha1:GoT.R w (old w) d cs1) (ha2:GoT.R w (old w) l cs2) (ha3:GoT.R w (old w) x cs3) {r:Bool} (hF:qdw n d l x=some r):RetV Tryz.prog 172 [GoT.v qd cs1,GoT.v qp cs2,GoT.v qn cs3] w r:=by
 obtain ⟨p1,k1,p2,k2,p3,k3,rfl,s1,s2,s3⟩:=qan ha1
 obtain ⟨p4,k4,rfl,s4⟩:=qbi ha2
 obtain ⟨p5,k5,rfl,s5⟩:=qM ha3
 refine zV 35 Tryz.func172 rfl fun h=>zSR (qt h rfl rfl fun w1 bb1 h=>qt h rfl rfl fun w2 bb2 h=>qt h rfl rfl fun w3 bb3 h=>X0 3 rfl (rD (Y1 2 0 h rfl ?_)))
 refine Y1 2 1 h rfl ?_
 obtain ⟨r1,hr1,hF⟩:=qc hF
 refine qa8 r1 (vsI _) (cB 206 rfl) (fun _ hb=>qkw ⟨_,_,rfl,((h.ext hb).oldS s4)⟩ hr1) rfl rfl rfl rfl (zd1 rfl ?_)
 obtain ⟨r2,hr2,hF⟩:=qc hF
 refine qa8 r2 (vsB _) (cB 115 rfl) (fun _ hb=>qas  hr2) rfl rfl rfl rfl (zd1 rfl (qaR (t:=14) hF rfl ?_ ?_))<;>intro hF
 ·refine Y1 4 0 h rfl ?_
  refine Y1 6 1 h rfl ?_
  refine Y1 4 0 h rfl ?_
  refine Y0 1 rfl ?_
  obtain ⟨y1,hy1,hF,he1,b1,_,q1,cs4,hp1,hq1,hr3,hc1⟩:=s4.ix hF
  obtain ⟨p6,k6,p7,k7,p8,k8,rfl,s6,s7,s8⟩:=qW hr3
  refine zdxe hp1 hq1 he1 rfl (Y0 3 rfl (zdc 2 (hc1.below h.below) rfl (Y0 6 rfl (qaR (t:=28) hF rfl ?_ ?_))))<;>intro hF
  ·refine Y1 4 0 h rfl ?_
   refine Y0 3 rfl ?_
   obtain ⟨r3,hr4,hF⟩:=qc hF
   exact qa8 r3 (vsB _) (cB 111 rfl) (fun _ hb=>qdq ⟨_,_,rfl,((h.ext hb).oldS s5)⟩ (qhu (x:=d) 2 (h.ext hb) rfl ((h.ext hb).old ha1)) hr4) rfl rfl rfl rfl (Y0 4 rfl (dN h fun w4 h=>rb h hF rfl))
  exact Y0 7 rfl (dN h fun w5 h=>rb h hF rfl)
 exact Y0 21 rfl (dN h fun w6 h=>rb h hF rfl)
def qiX (_:Nat) (a_n:Int):Option Bool :=
 some (a_n != 1)
theorem qm1 {a_n:Int}  {r:Bool} (hF:qiX n a_n=some r):RetV Tryz.prog 175 [.int .i64 a_n] w r:=by
 exact zV 5 Tryz.func175 rfl fun h=>X0 10 rfl (rb h hF rfl)
def qac (s:(List Int)):Nat→Int→Option (Flow Int Int)
 | 0,_=>none
 | n+1,i1 =>
  bif decide (i1<(s.length:Int)) then
   (idx s i1).bind fun y1 =>
   (qiX n y1).bind fun r1 =>
   bif r1 then some (.ret i1) else
   qac s n (W64 (i1+1))
  else
   some (.nxt i1)
def qbK (n:Nat) (s:(List Int)):Option Int :=
 (qac s n 0).bind fun o=>match o with
 | .ret r=>some r
 | .nxt _ =>
  some (-1)
theorem qfS {s:(List Int)} (ha1:GoT.R w (old w) s cs1) {r:Int} (hF:qbK n s=some r):RetV Tryz.prog 209 [GoT.v (List Int) cs1,.func (.func 175) #[] #[]] w r:=by
 obtain ⟨p1,k1,rfl,s1⟩:=ha1
 refine zV 19 Tryz.func209 rfl fun h=>X0 11 rfl ?_
 obtain ⟨o1,hF,hK1⟩:=qc hF
 refine ql (rL (fun m e w'=>∃ (i1:Int),qac s m i1=some o1∧e=[(0,.slice p1 s.length k1),(1,.func (.func 175) #[] #[]),(7,.int .i64 (s.length:Int)),(8,.int .i64 i1)]∧SH w w' []) n ⟨_,hF,rfl,h⟩ rfl ?_)
 rintro m1 e1 w1 ⟨i1,hF,rfl,h⟩
 rcases m1 with _|m1
 ·cases hF
 refine X0 5 rfl (qh rfl hF ?_ ?_)<;>intro hF
 ·refine X0 13 rfl ?_
  obtain ⟨y1,hy1,hF,he1,b1,_,q1,cs2,hp1,hq1,rfl,hc2⟩:=s1.ix hF
  refine zxe hp1 hq1 he1 rfl (zc 0 (hc2.below h.below) rfl (zcB h hF qm1 rfl fun r1 w2 h hF=>qct (qh rfl hF ?_ ?_)))<;>intro hF
  ·refine X0 5 rfl ?_
   obtain rfl:=qb hF;replace hF:=hK1
   exact ri h hF rfl
  exact X0 6 rfl (rK ⟨_,hF,rfl,h⟩ rfl)
 refine qr rfl ?_
 obtain rfl:=qb hF;replace hF:=hK1
 exact X0 4 rfl (ri h hF rfl)
def qbw (n:Nat) (s:(List Int)):Option Bool :=
 (qbK n s).bind fun r1 =>
 some (decide (r1 ≥ 0))
theorem qe2 {s:(List Int)} (ha1:GoT.R w (old w) s cs1) {r:Bool} (hF:qbw n s=some r):RetV Tryz.prog 174 [GoT.v (List Int) cs1,.func (.func 175) #[] #[]] w r:=by
 obtain ⟨p1,k1,rfl,s1⟩:=ha1
 exact zV 9 Tryz.func174 rfl fun h=>X0 8 rfl (zcI h hF (qfS ⟨_,_,rfl,(h.oldS s1)⟩) rfl fun r1 w1 h hF=>X0 3 rfl (rb h hF rfl))
def qb4 (a_1:qd):Nat→(List Int)→Int→Option (Flow Bool ((List Int) × Int))
 | 0,_,_=>none
 | n+1,x3,i2 =>
  bif decide (i2<(a_1.Ah.length:Int)) then
   (idx a_1.Ah i2).bind fun y5 =>
   (
    bif (y5.Bv != 1) then
     bif (y5.Bv != 2) then some true else
     (qc6 n a_1 y5.Bx).bind fun r2 =>
     some (!r2)
    else
     (qc6 n a_1 y5.Bx).bind fun r3 =>
     some (!r3)).bind fun b7 =>
   bif b7 then some (.ret false) else
   bif (y5.Bv==1) then
    (idx x3 y5.Bx).bind fun y6 =>
    (idx x3 y5.Bx).bind fun _ =>
    qb4 a_1 n (setS x3 y5.Bx (W64 (y6+1))) (W64 (i2+1))
   else
    qb4 a_1 n x3 (W64 (i2+1))
  else
   some (.nxt (x3,i2))
def qcK (a_0:qp) (a_1:qd):Nat→(List Int)→Int→Option (Flow Bool ((List Int) × Int))
 | 0,_,_=>none
 | n+1,x2,i1 =>
  bif decide (i1<(a_1.Aa.length:Int)) then
   (idx a_1.Aa i1).bind fun y1 =>
   (qdw n a_1 a_0 y1).bind fun r1 =>
   bif (!r1) then some (.ret false) else
   (idx y1.Aj (W64 ((y1.Aj.length:Int)-1))).bind fun y2 =>
   (idx x2 y2).bind fun y3 =>
   (idx x2 y2).bind fun _ =>
   qcK a_0 a_1 n (setS x2 y2 (W64 (y3+1))) (W64 (i1+1))
  else
   some (.nxt (x2,i1))
def qin (n:Nat) (a_0:qp) (a_1:qd):Option Bool :=
 (
  (qhs n a_0).bind fun r5 =>
  bif (!r5) then some true else
  (qei n a_1).bind fun r6 =>
  some (!r6)).bind fun b1 =>
 bif b1 then some false else
 (mkS (a_1.Aj.length:Int) (0:Int)).bind fun x1 =>
 (qcK a_0 a_1 n x1 0).bind fun o=>match o with
 | .ret r=>some r
 | .nxt (x2,_) =>
  (qb4 a_1 n x2 0).bind fun o=>match o with
  | .ret r=>some r
  | .nxt (x3,_) =>
   (qbw n x3).bind fun r4 =>
   some (!r4)
theorem qnZ {a_0:qp} {a_1:qd} (ha1:GoT.R w (old w) a_0 cs1) (ha2:GoT.R w (old w) a_1 cs2) {r:Bool} (hF:qin n a_0 a_1=some r):RetV Tryz.prog 134 [GoT.v qp cs1,GoT.v qd cs2] w r:=by
 obtain ⟨p1,k1,rfl,s1⟩:=qbi ha1
 obtain ⟨p2,k2,p3,k3,p4,k4,rfl,s2,s3,s4⟩:=qan ha2
 refine zV 84 Tryz.func134 rfl fun h=>zSR (qt h rfl rfl fun w1 bb1 h=>qt h rfl rfl fun w2 bb2 h=>X0 4 rfl ?_)
 obtain ⟨KF2,hKF2,o4,hF,hK4⟩:=bindE hF
 refine qbp (fun e w'=>∃ (b1:Bool),KF2 b1=some r∧e=[(2,.pointer (some ⟨bb1,0,none⟩)),(3,.pointer (some ⟨bb2,0,none⟩)),(17,.bool b1)]∧SH w w' [Ch.box bb2 (qaz a_1 p2 p3 p4 k2 k3 k4) 47,Ch.box bb1 [.slice p1 a_0.Ap.length k1] 43]) ?_ ?_
 ·refine X1 2 1 h rfl (zcB h hF (qnB (h.old ha1)) rfl fun r5 w17 h hF=>zp2 rfl (qi (t:=13) hF rfl ?_ ?_))<;>intro hF
  ·refine X0 5 rfl ?_
   obtain rfl:=qb hF
   exact rG ⟨_,hK4,rfl,h⟩ rfl
  refine X1 3 0 h rfl (zcB h hF (qkI (h.old ha2)) rfl fun r6 w18 h hF=>X0 4 rfl ?_)
  obtain rfl:=qb hF
  exact rG ⟨_,hK4,rfl,h⟩ rfl
 rintro e4 w19 ⟨b1,hF,rfl,h⟩
 subst hKF2
 refine qh rfl hF ?_ ?_<;>intro hF
 ·exact X0 4 rfl (rb h hF rfl)
 refine X1 6 0 h rfl ?_
 obtain ⟨x1,hx1,hF⟩:=qc hF
 obtain ⟨g1,g2,hx1⟩:=qL hx1
 refine qab qa Int h rfl rfl rfl rfl rfl rfl rfl rfl rfl g1 g2 hx1 rfl fun w3 S1 p5 h=>X1 10 1 h rfl ?_
 obtain ⟨o1,hF,hK1⟩:=qc hF
 refine ql (rL (fun m e w'=>∃ (x2:(List Int)) (i1:Int),qcK a_0 a_1 m x2 i1=some o1∧e=[(2,.pointer (some ⟨bb1,0,none⟩)),(3,.pointer (some ⟨bb2,0,none⟩)),(5,.slice p5 x1.length x1.length),(23,.slice p2 a_1.Aa.length k2),(24,.int .i64 (a_1.Aa.length:Int)),(25,.int .i64 i1)]∧SH w w' [Ch.own S1 (x2:List Int) [.slice p5 x1.length x1.length],Ch.box bb2 (qaz a_1 p2 p3 p4 k2 k3 k4) 47,Ch.box bb1 [.slice p1 a_0.Ap.length k1] 43]) n ⟨_,_,hF,rfl,h⟩ rfl ?_)
 rintro m1 e1 w4 ⟨x2,i1,hF,rfl,h⟩
 rcases m1 with _|m1
 ·cases hF
 refine X0 5 rfl (qh rfl hF ?_ ?_)<;>intro hF
 ·refine zKSBSR ?_
  obtain ⟨y1,hy1,hF,he1,b2,_,q1,cs3,hp1,hq1,hr1,hc3⟩:=s2.ix hF
  obtain ⟨p6,k5,rfl,s5⟩:=qM hr1
  refine zxe hp1 hq1 he1 rfl (zc 0 (hc3.below h.below) rfl (qm qa h rfl rfl rfl fun w5 bb3 h=>zs 0 h rfl fun w6 h=>X3 7 2 3 0 h rfl (zcB h hF (qj2 (h.old ha2) (h.old ha1) (qfw y1 (h.oldS s5))) rfl fun r1 w7 h hF=>X0 2 rfl (qh rfl hF ?_ ?_))))<;>intro hF
  ·refine X0 4 rfl ?_
   obtain rfl:=qb hF;replace hF:=hK1
   exact rb h hF rfl
  refine X2 9 0 0 h rfl ?_
  obtain ⟨y2,hy2,hF,he2,b3,_,q2,cs4,hp2,hq2,rfl,hc5⟩:=s5.ix hF
  refine zxe hp2 hq2 he2 rfl (zc 0 (hc5.below h.below) rfl ?_)
  obtain ⟨y3,hy3,hF,he3,b4,_,q3,cs5,hp3,hq3,rfl,hc6⟩:=(h.sl 1 rfl).1.ix hF
  refine zx hp3 hq3 ⟨he3.1,qR he3.2.1 (h.sl 1 rfl).2⟩ rfl (zc 0 hc6 rfl (zp1 rfl ?_))
  obtain ⟨y4,hy4,hF,he4,b5,_,q4,cs6,hp4,hq4,rfl,hc7⟩:=(h.sl 1 rfl).1.ix hF
  refine zx hp4 hq4 ⟨he4.1,qR he4.2.1 (h.sl 1 rfl).2⟩ rfl (qbh qa 1 0 (W64 (y3+1)) h rfl hy4 hp4 hq4 rfl hc7 rfl rfl rfl rfl rfl rfl rfl fun w8 h=>X0 6 rfl ?_)
  replace h:=h.pick [1,2,3] rfl
  exact rK ⟨_,_,hF,rfl,h⟩ rfl
 refine qr rfl ?_
 obtain rfl:=qb hF;replace hF:=hK1
 refine X1 8 1 h rfl ?_
 obtain ⟨o2,hF,hK2⟩:=qc hF
 refine ql ?_
 replace h:=h.pick [0,1] rfl
 refine rL (fun m e w'=>∃ (x3:(List Int)) (i2:Int),qb4 a_1 m x3 i2=some o2∧e=[(3,.pointer (some ⟨bb2,0,none⟩)),(5,.slice p5 x1.length x1.length),(49,.slice p4 a_1.Ah.length k4),(50,.int .i64 (a_1.Ah.length:Int)),(51,.int .i64 i2)]∧SH w w' [Ch.own S1 (x3:List Int) [.slice p5 x1.length x1.length],Ch.box bb2 (qaz a_1 p2 p3 p4 k2 k3 k4) 47]) n ⟨_,_,hF,rfl,h⟩ rfl ?_
 rintro m2 e2 w9 ⟨x3,i2,hF,rfl,h⟩
 rcases m2 with _|m2
 ·cases hF
 refine X0 5 rfl (qh rfl hF ?_ ?_)<;>intro hF
 ·refine zKSBSR ?_
  obtain ⟨y5,hy5,hF,he5,b6,_,q5,cs7,hp5,hq5,hr6,hc9⟩:=s4.ix hF
  obtain rfl:=qa1 hr6
  refine zxe hp5 hq5 he5 rfl (zc 0 (hc9.below h.below) rfl (qm qa h rfl rfl rfl fun w10 bb4 h=>zs 0 h rfl fun w11 h=>zNSS ?_))
  obtain ⟨KF1,hKF1,o3,hF,hK3⟩:=bindE hF
  refine qbp (fun e w'=>∃ (b7:Bool),KF1 b7=some o2∧e=[(3,.pointer (some ⟨bb2,0,none⟩)),(5,.slice p5 x1.length x1.length),(9,.pointer (some ⟨bb4,0,none⟩)),(49,.slice p4 a_1.Ah.length k4),(50,.int .i64 (a_1.Ah.length:Int)),(51,.int .i64 i2),(69,.bool b7)]∧SH w w' [Ch.box bb4 (qoW y5) 234,Ch.own S1 (x3:List Int) [.slice p5 x1.length x1.length],Ch.box bb2 (qaz a_1 p2 p3 p4 k2 k3 k4) 47]) ?_ ?_
  ·refine X1 5 0 h rfl (qi (t:=58) hF rfl ?_ ?_)<;>intro hF
   ·refine X1 8 0 h rfl (qi (t:=63) hF rfl ?_ ?_)<;>intro hF
    ·refine X0 7 rfl ?_
     obtain rfl:=qb hF
     exact rG ⟨_,hK3,rfl,h⟩ rfl
    refine X2 7 2 0 h rfl (zcB h hF (qf5 (h.old ha2)) rfl fun r2 w13 h hF=>X0 4 rfl ?_)
    obtain rfl:=qb hF
    exact rG ⟨_,hK3,rfl,h⟩ rfl
   refine X2 12 2 0 h rfl (zcB h hF (qf5 (h.old ha2)) rfl fun r3 w14 h hF=>X0 4 rfl ?_)
   obtain rfl:=qb hF
   exact rG ⟨_,hK3,rfl,h⟩ rfl
  rintro e3 w15 ⟨b7,hF,rfl,h⟩
  subst hKF1
  refine qh rfl hF ?_ ?_<;>intro hF
  ·refine X0 4 rfl ?_
   obtain rfl:=qb hF;replace hF:=hK2
   exact rb h hF rfl
  refine X1 7 0 h rfl (qh rfl hF ?_ ?_)<;>intro hF
  ·refine X1 4 0 h rfl ?_
   obtain ⟨y6,hy6,hF,he6,b8,_,q6,cs8,hp6,hq6,rfl,hc12⟩:=(h.sl 1 rfl).1.ix hF
   refine zx hp6 hq6 ⟨he6.1,qR he6.2.1 (h.sl 1 rfl).2⟩ rfl (zc 0 hc12 rfl (zp1 rfl ?_))
   obtain ⟨y7,hy7,hF,he7,b9,_,q7,cs9,hp7,hq7,rfl,hc13⟩:=(h.sl 1 rfl).1.ix hF
   refine zx hp7 hq7 ⟨he7.1,qR he7.2.1 (h.sl 1 rfl).2⟩ rfl (qbh qa 1 0 (W64 (y6+1)) h rfl hy7 hp7 hq7 rfl hc13 rfl rfl rfl rfl rfl rfl rfl fun w12 h=>X0 6 rfl ?_)
   replace h:=h.pick [1,2] rfl
   exact rK ⟨_,_,hF,rfl,h⟩ rfl
  refine X0 6 rfl ?_
  replace h:=h.pick [1,2] rfl
  exact rK ⟨_,_,hF,rfl,h⟩ rfl
 refine qr rfl ?_
 obtain rfl:=qb hF;replace hF:=hK2
 exact X0 3 rfl (zcB h hF (qe2 (h.own 0 rfl)) rfl fun r4 w16 h hF=>X0 3 rfl (rb h hF rfl))
def qbs (i1:Int) (y1:qn):Nat→(List Tplace)→Int→Option ((List Tplace) × Int)
 | 0,_,_=>none
 | n+1,x2,i2 =>
  bif decide (i2<(y1.Aj.length:Int)) then
   (idx y1.Aj i2).bind fun y2 =>
   (appS x2 ([(⟨i1,i2,y2,(i2==(W64 ((y1.Aj.length:Int)-1)))⟩:Tplace)]:List Tplace)).bind fun x3 =>
   qbs i1 y1 n x3 (W64 (i2+1))
  else
   some (x2,i2)
def qbr (d:qd):Nat→(List Tplace)→Int→Option ((List Tplace) × Int)
 | 0,_,_=>none
 | n+1,x4,i3 =>
  bif decide (i3<(d.Ah.length:Int)) then
   (idx d.Ah i3).bind fun y3 =>
   (appS x4 ([(⟨(-1),i3,y3.Bx,(y3.Bv==1)⟩:Tplace)]:List Tplace)).bind fun x5 =>
   qbr d n x5 (W64 (i3+1))
  else
   some (x4,i3)
def qbu (d:qd):Nat→(List Tplace)→Int→Option ((List Tplace) × Int)
 | 0,_,_=>none
 | n+1,x1,i1 =>
  bif decide (i1<(d.Aa.length:Int)) then
   (idx d.Aa i1).bind fun y1 =>
   (qbs i1 y1 n x1 0).bind fun o=>match o with
   | (x2,_) =>
    qbu d n x2 (W64 (i1+1))
  else
   some (x1,i1)
def qbY (n:Nat) (d:qd):Option (List Tplace) :=
 (qbu d n ([]:List Tplace) 0).bind fun o=>match o with
 | (x1,_) =>
  (qbr d n x1 0).bind fun o=>match o with
  | (x4,_) =>
   some x4
theorem qdZ {d:qd} (ha1:GoT.R w (old w) d cs1) {r:(List Tplace)} (hF:qbY n d=some r):RetV Tryz.prog 135 [GoT.v qd cs1] w r:=by
 obtain ⟨p1,k1,p2,k2,p3,k3,rfl,s1,s2,s3⟩:=qan ha1
 refine zV 61 Tryz.func135 rfl fun h=>zSR (qt h rfl rfl fun w1 bb1 h=>X1 14 0 h rfl ?_)
 replace h:=h.nil (α:=Tplace)
 obtain ⟨o1,hF,hK1⟩:=qc hF
 refine ql (rL (fun m e w'=>∃ (S1:Nat→Prop) (p4:Option Addr) (ln1:Nat) (k4:Nat) (x1:(List Tplace)) (i1:Int),qbu d m x1 i1=some o1∧e=[(1,.pointer (some ⟨bb1,0,none⟩)),(3,.slice p4 ln1 k4),(11,.slice p1 d.Aa.length k1),(12,.int .i64 (d.Aa.length:Int)),(13,.int .i64 i1)]∧SH w w' [Ch.own S1 (x1:List Tplace) [.slice p4 ln1 k4],Ch.box bb1 (qaz d p1 p2 p3 k1 k2 k3) 47]) n ⟨_,_,_,_,_,_,hF,rfl,h⟩ rfl ?_)
 rintro m1 e1 w2 ⟨S1,p4,ln1,k4,x1,i1,hF,rfl,h⟩
 obtain rfl:=(h.sl 0 rfl).2
 rcases m1 with _|m1
 ·cases hF
 refine X0 5 rfl (qh rfl hF ?_ ?_)<;>intro hF
 ·refine X0 6 rfl ?_
  obtain ⟨y1,hy1,hF,he1,b1,_,q1,cs2,hp1,hq1,hr1,hc2⟩:=s1.ix hF
  obtain ⟨p5,k5,rfl,s4⟩:=qM hr1
  refine zxe hp1 hq1 he1 rfl (zc 0 (hc2.below h.below) rfl (qm qa h rfl rfl rfl fun w3 bb2 h=>zp1 rfl (zs 0 h rfl fun w4 h=>X1 8 0 h rfl ?_)))
  obtain ⟨o2,hF,hK2⟩:=qc hF
  refine ql (rL (fun m e w'=>∃ (S2:Nat→Prop) (p6:Option Addr) (ln2:Nat) (k6:Nat) (x2:(List Tplace)) (i2:Int),qbs i1 y1 m x2 i2=some o2∧e=[(1,.pointer (some ⟨bb1,0,none⟩)),(3,.slice p6 ln2 k6),(4,.int .i64 i1),(5,.pointer (some ⟨bb2,0,none⟩)),(11,.slice p1 d.Aa.length k1),(12,.int .i64 (d.Aa.length:Int)),(13,.int .i64 i1),(19,.slice p5 y1.Aj.length k5),(20,.int .i64 (y1.Aj.length:Int)),(21,.int .i64 i2)]∧SH w w' [Ch.box bb2 (qiG y1 p5 k5) 168,Ch.own S2 (x2:List Tplace) [.slice p6 ln2 k6],Ch.box bb1 (qaz d p1 p2 p3 k1 k2 k3) 47]) m1 ⟨_,_,_,_,_,_,hF,rfl,h⟩ rfl ?_)
  rintro m2 e2 w5 ⟨S2,p6,ln2,k6,x2,i2,hF,rfl,h⟩
  obtain rfl:=(h.sl 1 rfl).2
  rcases m2 with _|m2
  ·cases hF
  refine X0 5 rfl (qh rfl hF ?_ ?_)<;>intro hF
  ·refine X0 6 rfl ?_
   obtain ⟨y2,hy2,hF,he2,b2,_,q2,cs3,hp2,hq2,rfl,hc4⟩:=s4.ix hF
   refine zxe hp2 hq2 he2 rfl (zc 0 (hc4.below h.below) rfl (X1 14 0 h rfl (r_v (qU qa [0,1,2,3] [.tmp 27,.tmp 28,.tmp 29,.tmp 35] rfl rfl rfl rfl rfl rfl rfl rfl) rfl (qQ qa [.tmp 36] _ ([(⟨i1,i2,y2,(i2==(W64 ((y1.Aj.length:Int)-1)))⟩:Tplace)]:List Tplace) h rfl rfl rfl rfl rfl rfl rfl rfl rfl ⟨(qli (⟨i1,i2,y2,(i2==(W64 ((y1.Aj.length:Int)-1)))⟩:Tplace)),trivial⟩ rfl fun w6 p7 S3 h=>?_))))
   obtain ⟨x3,hx1,hF⟩:=qc hF
   obtain ⟨g1,hx1⟩:=qar hx1
   refine qcD qa 2 h rfl (h.sl 0 rfl).1 (h.sl 0 rfl).2 rfl rfl rfl rfl rfl rfl rfl rfl rfl g1 hx1 rfl fun w7 p8 k7 S4 h=>X0 7 rfl ?_
   replace h:=h.pick [1,2,3] rfl
   exact rK ⟨_,_,_,_,_,_,hF,rfl,h⟩ rfl
  refine qr rfl ?_
  obtain rfl:=qb hF;replace hF:=hK2
  refine X0 5 rfl ?_
  replace h:=h.pick [1,2] rfl
  exact rK ⟨_,_,_,_,_,_,hF,rfl,h⟩ rfl
 refine qr rfl ?_
 obtain rfl:=qb hF;replace hF:=hK1
 refine X1 8 1 h rfl ?_
 obtain ⟨o3,hF,hK3⟩:=qc hF
 refine ql ?_
 replace h:=h.pick [0] rfl
 refine rL (fun m e w'=>∃ (S5:Nat→Prop) (p9:Option Addr) (ln3:Nat) (k8:Nat) (x4:(List Tplace)) (i3:Int),qbr d m x4 i3=some o3∧e=[(3,.slice p9 ln3 k8),(42,.slice p3 d.Ah.length k3),(43,.int .i64 (d.Ah.length:Int)),(44,.int .i64 i3)]∧SH w w' [Ch.own S5 (x4:List Tplace) [.slice p9 ln3 k8]]) n ⟨_,_,_,_,_,_,hF,rfl,h⟩ rfl ?_
 rintro m3 e3 w8 ⟨S5,p9,ln3,k8,x4,i3,hF,rfl,h⟩
 obtain rfl:=(h.sl 0 rfl).2
 rcases m3 with _|m3
 ·cases hF
 refine X0 5 rfl (qh rfl hF ?_ ?_)<;>intro hF
 ·refine X0 6 rfl ?_
  obtain ⟨y3,hy3,hF,he3,b3,_,q3,cs4,hp3,hq3,hr3,hc6⟩:=s3.ix hF
  obtain rfl:=qa1 hr3
  refine zxe hp3 hq3 he3 rfl (zc 0 (hc6.below h.below) rfl (qm qa h rfl rfl rfl fun w9 bb3 h=>zp1 rfl (zs 0 h rfl fun w10 h=>X2 9 0 0 h rfl (r_v (qU qa [0,1,2,3] [.const (.int .i64 (-1)),.tmp 50,.tmp 52,.tmp 55] rfl rfl rfl rfl rfl rfl rfl rfl) rfl (qQ qa [.tmp 56] _ ([(⟨(-1),i3,y3.Bx,(y3.Bv==1)⟩:Tplace)]:List Tplace) h rfl rfl rfl rfl rfl rfl rfl rfl rfl ⟨(qli (⟨(-1),i3,y3.Bx,(y3.Bv==1)⟩:Tplace)),trivial⟩ rfl fun w11 p10 S6 h=>?_)))))
  obtain ⟨x5,hx2,hF⟩:=qc hF
  obtain ⟨g2,hx2⟩:=qar hx2
  refine qcD qa 2 h rfl (h.sl 0 rfl).1 (h.sl 0 rfl).2 rfl rfl rfl rfl rfl rfl rfl rfl rfl g2 hx2 rfl fun w12 p11 k9 S7 h=>X0 7 rfl ?_
  replace h:=h.pick [2] rfl
  exact rK ⟨_,_,_,_,_,_,hF,rfl,h⟩ rfl
 refine qr rfl ?_
 obtain rfl:=qb hF;replace hF:=hK3
 refine X0 5 rfl ?_
 obtain rfl:=qb hF
 exact rO 0 h rfl ⟨rfl,trivial⟩
def qaU (a_w:qO):Nat→Int→Option (Flow Bool Int)
 | 0,_=>none
 | n+1,i1 =>
  bif decide (i1<(a_w.Ai.length:Int)) then
   (idx a_w.Ai i1).bind fun y1 =>
   bif (i1==0) then
    bif (y1 != (-1)) then some (.ret false) else
    (idx a_w.Bw 0).bind fun y2 =>
    bif (y2 != 0) then some (.ret false) else
    bif decide (i1 > 0) then
     (qaF n y1 0 (W64 (i1-1))).bind fun r1 =>
     bif (!r1) then some (.ret false) else
     qaU a_w n (W64 (i1+1))
    else
     qaU a_w n (W64 (i1+1))
   else
    bif decide (i1 > 0) then
     (qaF n y1 0 (W64 (i1-1))).bind fun r2 =>
     bif (!r2) then some (.ret false) else
     qaU a_w n (W64 (i1+1))
    else
     qaU a_w n (W64 (i1+1))
  else
   some (.nxt i1)
def qgu (n:Nat) (a_w:qO):Option Bool :=
 (qaU a_w n 0).bind fun o=>match o with
 | .ret r=>some r
 | .nxt _ =>
  some true
theorem qmH {a_w:qO} (ha1:GoT.R w (old w) a_w cs1) {r:Bool} (hF:qgu n a_w=some r):RetV Tryz.prog 176 [GoT.v qO cs1] w r:=by
 obtain ⟨p1,k1,p2,k2,p3,k3,p4,k4,rfl,s1,s2,s3,s4⟩:=qaB ha1
 refine zV 38 Tryz.func176 rfl fun h=>zSR (qt h rfl rfl fun w1 bb1 h=>X1 10 0 h rfl ?_)
 obtain ⟨o1,hF,hK1⟩:=qc hF
 refine ql (rL (fun m e w'=>∃ (i1:Int),qaU a_w m i1=some o1∧e=[(1,.pointer (some ⟨bb1,0,none⟩)),(6,.slice p1 a_w.Ai.length k1),(7,.int .i64 (a_w.Ai.length:Int)),(8,.int .i64 i1)]∧SH w w' [Ch.box bb1 (qfK a_w p1 p2 p3 p4 k1 k2 k3 k4) 186]) n ⟨_,hF,rfl,h⟩ rfl ?_)
 rintro m1 e1 w2 ⟨i1,hF,rfl,h⟩
 rcases m1 with _|m1
 ·cases hF
 refine X0 5 rfl (qh rfl hF ?_ ?_)<;>intro hF
 ·refine X0 6 rfl ?_
  obtain ⟨y1,hy1,hF,he1,b1,_,q1,cs2,hp1,hq1,rfl,hc2⟩:=s1.ix hF
  refine zxe hp1 hq1 he1 rfl (zc 0 (hc2.below h.below) rfl (X0 8 rfl (qi (t:=15) hF rfl ?_ ?_)))<;>intro hF
  ·refine X0 6 rfl (qi (t:=18) hF rfl ?_ ?_)<;>intro hF
   ·refine X0 20 rfl (qbO rfl rfl (X0 4 rfl ?_))
    obtain rfl:=qb hF;replace hF:=hK1
    exact rb h hF rfl
   refine X1 5 0 h rfl ?_
   obtain ⟨y2,hy2,hF,he2,b2,_,q2,cs3,hp2,hq2,rfl,hc3⟩:=s2.ix hF
   refine zxe hp2 hq2 he2 rfl (X0 1 rfl (zc 0 (hc3.below h.below) rfl (X0 6 rfl (qi (t:=26) hF rfl ?_ ?_))))<;>intro hF
   ·refine X0 11 rfl (qbO rfl rfl (X0 4 rfl ?_))
    obtain rfl:=qb hF;replace hF:=hK1
    exact rb h hF rfl
   refine X0 6 rfl (qi (t:=29) hF rfl ?_ ?_)<;>intro hF
   ·refine X0 7 rfl (zcB h hF qas rfl fun r1 w3 h hF=>X0 6 rfl (qh rfl hF ?_ ?_))<;>intro hF
    ·refine X0 4 rfl ?_
     obtain rfl:=qb hF;replace hF:=hK1
     exact rb h hF rfl
    exact X0 6 rfl (rK ⟨_,hF,rfl,h⟩ rfl)
   exact X0 9 rfl (qb9 rfl rfl (X0 6 rfl (rK ⟨_,hF,rfl,h⟩ rfl)))
  refine X0 17 rfl (qi (t:=29) hF rfl ?_ ?_)<;>intro hF
  ·refine X0 7 rfl (zcB h hF qas rfl fun r2 w4 h hF=>X0 6 rfl (qh rfl hF ?_ ?_))<;>intro hF
   ·refine X0 4 rfl ?_
    obtain rfl:=qb hF;replace hF:=hK1
    exact rb h hF rfl
   exact X0 6 rfl (rK ⟨_,hF,rfl,h⟩ rfl)
  exact X0 9 rfl (qb9 rfl rfl (X0 6 rfl (rK ⟨_,hF,rfl,h⟩ rfl)))
 refine qr rfl ?_
 obtain rfl:=qb hF;replace hF:=hK1
 exact X0 4 rfl (rb h hF rfl)
def qkn (n:Nat) (a_w:qO) (sinks:Int):Option Bool :=
 (qa7 n a_w.Ai).bind fun r1 =>
 (qaF n r1 1 8).bind fun r2 =>
 bif r2 then
  (qa7 n a_w.Bw).bind fun r3 =>
  bif (r3==r1) then
   (qa7 n a_w.Bt).bind fun r4 =>
   bif (r4==r1) then
    (qgu n a_w).bind fun r5 =>
    bif r5 then
     (qbS n a_w.Bw 0 1000).bind fun r6 =>
     bif r6 then
      (qbS n a_w.Bt 0 500).bind fun r7 =>
      bif r7 then
       (qa7 n a_w.Bj).bind fun r8 =>
       bif (r8==sinks) then
        (qbS n a_w.Bj 0 (W64 (r1-1))).bind fun r9 =>
        some r9
       else
        some false
      else
       some false
     else
      some false
    else
     some false
   else
    some false
  else
   some false
 else
  some false
theorem qpS {a_w:qO} {sinks:Int} (ha1:GoT.R w (old w) a_w cs1) {r:Bool} (hF:qkn n a_w sinks=some r):RetV Tryz.prog 136 [GoT.v qO cs1,.int .i64 sinks] w r:=by
 obtain ⟨p1,k1,p2,k2,p3,k3,p4,k4,rfl,s1,s2,s3,s4⟩:=qaB ha1
 refine zV 53 Tryz.func136 rfl fun h=>zSR (qt h rfl rfl fun w1 bb1 h=>X1 6 0 h rfl (zcI h hF (qb1 ⟨_,_,rfl,(h.oldS s1)⟩) rfl fun r1 w2 h hF=>X0 5 rfl (zcB h hF qas rfl fun r2 w3 h hF=>zp1 rfl (qi (t:=11) hF rfl ?_ ?_))))<;>intro hF
 ·refine X1 5 0 h rfl (zcI h hF (qb1 ⟨_,_,rfl,(h.oldS s2)⟩) rfl fun r3 w4 h hF=>X0 6 rfl (qi (t:=18) hF rfl ?_ ?_))<;>intro hF
  ·refine X1 5 0 h rfl (zcI h hF (qb1 ⟨_,_,rfl,(h.oldS s3)⟩) rfl fun r4 w5 h hF=>X0 6 rfl (qi (t:=25) hF rfl ?_ ?_))<;>intro hF
   ·refine X1 3 0 h rfl (zcB h hF (qmH (h.old ha1)) rfl fun r5 w6 h hF=>zp2 rfl (qi (t:=29) hF rfl ?_ ?_))<;>intro hF
    ·refine X1 5 0 h rfl (zcB h hF (qck ⟨_,_,rfl,(h.oldS s2)⟩) rfl fun r6 w7 h hF=>zp2 rfl (qi (t:=34) hF rfl ?_ ?_))<;>intro hF
     ·refine X1 5 0 h rfl (zcB h hF (qck ⟨_,_,rfl,(h.oldS s3)⟩) rfl fun r7 w8 h hF=>zp2 rfl (qi (t:=39) hF rfl ?_ ?_))<;>intro hF
      ·refine X1 5 0 h rfl (zcI h hF (qb1 ⟨_,_,rfl,(h.oldS s4)⟩) rfl fun r8 w9 h hF=>X0 6 rfl (qi (t:=46) hF rfl ?_ ?_))<;>intro hF
       ·exact X1 9 0 h rfl (zcB h hF (qck ⟨_,_,rfl,(h.oldS s4)⟩) rfl fun r9 w10 h hF=>X0 3 rfl (rb h hF rfl))
       exact X0 8 rfl (rb h hF rfl)
      exact X0 15 rfl (rb h hF rfl)
     exact X0 20 rfl (rb h hF rfl)
    exact X0 25 rfl (rb h hF rfl)
   exact X0 29 rfl (rb h hF rfl)
  exact X0 36 rfl (rb h hF rfl)
 exact X0 43 rfl (rb h hF rfl)
def qd9 (b:qe) (x2:(List Int)):Nat→Int→Option (Flow Bool Int)
 | 0,_=>none
 | n+1,i2 =>
  bif decide (i2<(b.Ac.length:Int)) then
   (idx b.Ac i2).bind fun y4 =>
   (idx x2 i2).bind fun y5 =>
   (qkn n y4 y5).bind fun r2 =>
   bif (!r2) then some (.ret false) else
   qd9 b x2 n (W64 (i2+1))
  else
   some (.nxt i2)
def qcx (r1:(List Tplace)):Nat→(List Int)→Int→Option ((List Int) × Int)
 | 0,_,_=>none
 | n+1,x2,i1 =>
  bif decide (i1<(r1.length:Int)) then
   (idx r1 i1).bind fun y1 =>
   bif (!y1.drives) then
    (idx x2 y1.net).bind fun y2 =>
    (idx x2 y1.net).bind fun _ =>
    qcx r1 n (setS x2 y1.net (W64 (y2+1))) (W64 (i1+1))
   else
    qcx r1 n x2 (W64 (i1+1))
  else
   some (x2,i1)
def qhr (n:Nat) (b:qe):Option Bool :=
 (
  (qin n (⟨b.Au.Ap⟩:qp) (⟨b.Ab.Aa,b.Ab.Aj,b.Ab.Ah⟩:qd)).bind fun r3 =>
  bif (!r3) then some true else
  some ((b.Ac.length:Int) != (b.Ab.Aj.length:Int))).bind fun b1 =>
 bif b1 then some false else
 (mkS (b.Ac.length:Int) (0:Int)).bind fun x1 =>
 (qbY n (⟨b.Ab.Aa,b.Ab.Aj,b.Ab.Ah⟩:qd)).bind fun r1 =>
 (qcx r1 n x1 0).bind fun o=>match o with
 | (x2,_) =>
  (qd9 b x2 n 0).bind fun o=>match o with
  | .ret r=>some r
  | .nxt _ =>
   some true
theorem qoT {b:qe} (ha1:GoT.R w (old w) b cs1) {r:Bool} (hF:qhr n b=some r):RetV Tryz.prog 93 [GoT.v qe cs1] w r:=by
 obtain ⟨p1,k1,p2,k2,p3,k3,p4,k4,p5,k5,rfl,s1,s2,s3,s4,s5⟩:=qT ha1
 refine zV 63 Tryz.func93 rfl fun h=>zSR (qt h rfl rfl fun w1 bb1 h=>X0 4 rfl ?_)
 obtain ⟨KF1,hKF1,o3,hF,hK3⟩:=bindE hF
 refine qbp (fun e w'=>∃ (b1:Bool),KF1 b1=some r∧e=[(1,.pointer (some ⟨bb1,0,none⟩)),(23,.bool b1)]∧SH w w' [Ch.box bb1 (qaG b p1 p2 p3 p4 p5 k1 k2 k3 k4 k5) 50]) ?_ ?_
 ·refine X2 5 0 0 h rfl (zcB h hF (qnZ (qdx _ (h.oldS s1)) (qak _ (h.oldS s2) (h.oldS s3) (h.oldS s4))) rfl fun r3 w12 h hF=>zp2 rfl (qi (t:=14) hF rfl ?_ ?_))<;>intro hF
  ·refine X0 10 rfl ?_
   obtain rfl:=qb hF
   exact rG ⟨_,hK3,rfl,h⟩ rfl
  refine X2 18 0 0 h rfl ?_
  obtain rfl:=qb hF
  exact rG ⟨_,hK3,rfl,h⟩ rfl
 rintro e3 w13 ⟨b1,hF,rfl,h⟩
 subst hKF1
 refine qh rfl hF ?_ ?_<;>intro hF
 ·exact X0 4 rfl (rb h hF rfl)
 refine X1 6 0 h rfl ?_
 obtain ⟨x1,hx1,hF⟩:=qc hF
 obtain ⟨g1,g2,hx1⟩:=qL hx1
 refine qab qa Int h rfl rfl rfl rfl rfl rfl rfl rfl rfl g1 g2 hx1 rfl fun w2 S1 p6 h=>X1 7 1 h rfl (zcL h hF (qdZ (qak _ (h.oldS s2) (h.oldS s3) (h.oldS s4))) rfl fun r1 w3 S2 p7 k6 h hF=>X0 3 rfl ?_)
 obtain ⟨o1,hF,hK1⟩:=qc hF
 refine ql (rL (fun m e w'=>∃ (x2:(List Int)) (i1:Int),qcx r1 m x2 i1=some o1∧e=[(1,.pointer (some ⟨bb1,0,none⟩)),(3,.slice p6 x1.length x1.length),(30,.slice p7 r1.length k6),(31,.int .i64 (r1.length:Int)),(32,.int .i64 i1)]∧SH w w' [Ch.own S2 (r1:List Tplace) [.slice p7 r1.length k6],Ch.own S1 (x2:List Int) [.slice p6 x1.length x1.length],Ch.box bb1 (qaG b p1 p2 p3 p4 p5 k1 k2 k3 k4 k5) 50]) n ⟨_,_,hF,rfl,h⟩ rfl ?_)
 rintro m1 e1 w4 ⟨x2,i1,hF,rfl,h⟩
 rcases m1 with _|m1
 ·cases hF
 refine X0 5 rfl (qh rfl hF ?_ ?_)<;>intro hF
 ·refine zKSBSR ?_
  obtain ⟨y1,hy1,hF,he1,b2,_,q1,cs2,hp1,hq1,hr2,hc3⟩:=(h.sl 0 rfl).1.ix hF
  obtain rfl:=qfZ hr2
  refine zx hp1 hq1 ⟨he1.1,qR he1.2.1 (h.sl 0 rfl).2⟩ rfl (zc 0 hc3 rfl (qm qa h rfl rfl rfl fun w5 bb2 h=>zs 0 h rfl fun w6 h=>X1 7 0 h rfl (qh rfl hF ?_ ?_)))<;>intro hF
  ·refine X1 4 0 h rfl ?_
   obtain ⟨y2,hy2,hF,he2,b3,_,q2,cs3,hp2,hq2,rfl,hc5⟩:=(h.sl 2 rfl).1.ix hF
   refine zx hp2 hq2 ⟨he2.1,qR he2.2.1 (h.sl 2 rfl).2⟩ rfl (zc 0 hc5 rfl (zp1 rfl ?_))
   obtain ⟨y3,hy3,hF,he3,b4,_,q3,cs4,hp3,hq3,rfl,hc6⟩:=(h.sl 2 rfl).1.ix hF
   refine zx hp3 hq3 ⟨he3.1,qR he3.2.1 (h.sl 2 rfl).2⟩ rfl (qbh qa 2 0 (W64 (y2+1)) h rfl hy3 hp3 hq3 rfl hc6 rfl rfl rfl rfl rfl rfl rfl fun w7 h=>X0 6 rfl ?_)
   replace h:=h.pick [1,2,3] rfl
   exact rK ⟨_,_,hF,rfl,h⟩ rfl
  refine X0 6 rfl ?_
  replace h:=h.pick [1,2,3] rfl
  exact rK ⟨_,_,hF,rfl,h⟩ rfl
 refine qr rfl ?_
 obtain rfl:=qb hF;replace hF:=hK1
 refine X1 8 2 h rfl ?_
 obtain ⟨o2,hF,hK2⟩:=qc hF
 refine ql ?_
 replace h:=h.pick [1] rfl
 refine rL (fun m e w'=>∃ (i2:Int),qd9 b x2 m i2=some o2∧e=[(3,.slice p6 x1.length x1.length),(48,.slice p5 b.Ac.length k5),(49,.int .i64 (b.Ac.length:Int)),(50,.int .i64 i2)]∧SH w w' [Ch.own S1 (x2:List Int) [.slice p6 x1.length x1.length]]) n ⟨_,hF,rfl,h⟩ rfl ?_
 rintro m2 e2 w8 ⟨i2,hF,rfl,h⟩
 rcases m2 with _|m2
 ·cases hF
 refine X0 5 rfl (qh rfl hF ?_ ?_)<;>intro hF
 ·refine X0 6 rfl ?_
  obtain ⟨y4,hy4,hF,he4,b5,_,q4,cs5,hp4,hq4,hr5,hc8⟩:=s5.ix hF
  obtain ⟨p8,k7,p9,k8,p10,k9,p11,k10,rfl,s6,s7,s8,s9⟩:=qaB hr5
  refine zxe hp4 hq4 he4 rfl (zc 0 (hc8.below h.below) rfl (qm qa h rfl rfl rfl fun w9 bb3 h=>zp1 rfl (zs 0 h rfl fun w10 h=>zNS (rD (Y1 1 0 h rfl ?_)))))
  refine zd2 rfl ?_
  obtain ⟨y5,hy5,hF,he5,b6,_,q5,cs6,hp5,hq5,rfl,hc9⟩:=(h.sl 1 rfl).1.ix hF
  refine zdx hp5 hq5 ⟨he5.1,qR he5.2.1 (h.sl 1 rfl).2⟩ rfl (zdc 0 hc9 rfl ?_)
  obtain ⟨r2,hr7,hF⟩:=qc hF
  refine qa8 r2 (vsB _) (cB 136 rfl) (fun _ hb=>qpS (qjr y4 ((h.ext hb).oldS s6) ((h.ext hb).oldS s7) ((h.ext hb).oldS s8) ((h.ext hb).oldS s9)) hr7) rfl rfl rfl rfl (zd1 rfl (dN h fun w11 h=>qh rfl hF ?_ ?_))<;>intro hF
  ·refine X0 4 rfl ?_
   obtain rfl:=qb hF;replace hF:=hK2
   exact rb h hF rfl
  refine X0 6 rfl ?_
  replace h:=h.pick [1] rfl
  exact rK ⟨_,hF,rfl,h⟩ rfl
 refine qr rfl ?_
 obtain rfl:=qb hF;replace hF:=hK2
 exact X0 4 rfl (rb h hF rfl)
end Go.Fw


namespace Go.Fw
open Go
def qcX (a:(List Int)):Nat:=a.length
theorem qdB {a:(List Int)} (h:(rngL rngI) a) (w:qcX a≤1048576):(okL okI) a :=
 ⟨by simp only [qcX] at w;omega,fun x hx=>h.2 x hx⟩
def qha (x:qv):Prop:=(rngL rngI) x.Bl∧(rngL rngI) x.Bh∧(rngL rngI) x.Bf
def qe3 (x:qv):Nat:=qcX x.Bl+qcX x.Bh+qcX x.Bf
structure qhF (x:qv):Prop where
 Bl:(okL okI) x.Bl
 Bh:(okL okI) x.Bh
 Bf:(okL okI) x.Bf
theorem qsO {x:qv} (h:qha x) (w:qe3 x≤1048576):qhF x:=⟨qdB (h.1) (by simp only [qe3] at w;omega),qdB (h.2.1) (by simp only [qe3] at w;omega),qdB (h.2.2) (by simp only [qe3] at w;omega)⟩
def qfn (a:(List qv)):Nat:=a.length+(a.map fun x=>qe3 x).sum
theorem qoo {a:(List qv)} (h:(rngL qha) a) (w:qfn a≤1048576):(okL qhF) a :=
 ⟨by simp only [qfn] at w;omega,fun x hx=>qsO (h.2 x hx) (by have:=qd1 (wt:=fun x:qv=>qe3 x) hx;simp only [qfn] at w;omega)⟩
def qk9 (x:qN):Prop:=rngI x.Ba∧rngI x.Bi∧rngI x.To∧rngI x.Bn∧(rngL qha) x.Bq∧(rngL qha) x.Bc
def qj4 (x:qN):Nat:=qfn x.Bq+qfn x.Bc
structure qmQ (x:qN):Prop where
 Ba:okI x.Ba
 Bi:okI x.Bi
 To:okI x.To
 Bn:okI x.Bn
 Bq:(okL qhF) x.Bq
 Bc:(okL qhF) x.Bc
theorem qux {x:qN} (h:qk9 x) (w:qj4 x≤1048576):qmQ x:=⟨h.1,h.2.1,h.2.2.1,h.2.2.2.1,qoo (h.2.2.2.2.1) (by simp only [qj4] at w;omega),qoo (h.2.2.2.2.2) (by simp only [qj4] at w;omega)⟩
theorem qfx {a:(List Int)} (h:qcX a≤1048576):Ev (fun n=>qbk n a a) true:=by
 have hl:a.length≤1048576:=by simp only [qcX] at h;omega
 unfold qbk
 exact Ev.ff (by simp) (Ev.bind (b:=.nxt (a.length:Int)) (qig (eqf:=fun _ x y=>some (!(x != y))) (fun x _=>Ev.now (by simp))
  (fun n=>by simp only [qeT,qk (jb _),cond_false])
  (fun n j x hx=>by
   have hj:=(List.getElem?_eq_some_iff.1 hx).1
   simp only [qeT,qj hj,cond_true,qaq hx,ja,Bool.not_not,wS j])) .done)
theorem quG {a:qv} (h:qe3 a≤1048576):Ev (fun n=>qhH n a a) true:=by
 unfold qhH
 simp only [qe3] at h
 exact Ev.bind (qfx (a:=a.Bl) (by omega)) (Ev.ff rfl (Ev.bind (qfx (a:=a.Bh) (by omega)) (Ev.ff rfl (Ev.bind (qfx (a:=a.Bf) (by omega)) (Ev.ff rfl (.done))))))
theorem qqm {a:(List qv)} (h:qfn a≤1048576):Ev (fun n=>qgF n a a) true:=by
 have hl:a.length≤1048576:=by simp only [qfn] at h;omega
 unfold qgF
 exact Ev.ff (by simp) (Ev.bind (b:=.nxt (a.length:Int)) (qig (eqf:=qhH) (fun x hx=>quG (by have:=qd1 (wt:=fun x:qv=>qe3 x) hx;simp only [qfn] at h;omega))
  (fun n=>by simp only [qeS,qk (jb _),cond_false])
  (fun n j x hx=>by
   have hj:=(List.getElem?_eq_some_iff.1 hx).1
   simp only [qeS,qj hj,cond_true,qaq hx,ja,wS j])) .done)
theorem qwZ {a:qN} (h:qj4 a≤1048576):Ev (fun n=>qjA n a a) true:=by
 unfold qjA
 simp only [qj4] at h
 exact Ev.ff qaM (Ev.ff qaM (Ev.ff qaM (Ev.ff qaM (Ev.bind (qqm (a:=a.Bq) (by omega)) (Ev.ff rfl (Ev.bind (qqm (a:=a.Bc) (by omega)) (Ev.ff rfl (.done))))))))
def qjE (a:(List qN)):Nat:=a.length+(a.map fun x=>qj4 x).sum
theorem qt3 {a:(List qN)} (h:(rngL qk9) a) (w:qjE a≤1048576):(okL qmQ) a :=
 ⟨by simp only [qjE] at w;omega,fun x hx=>qux (h.2 x hx) (by have:=qd1 (wt:=fun x:qN=>qj4 x) hx;simp only [qjE] at w;omega)⟩
theorem qwc {a:(List qN)} (h:qjE a≤1048576):Ev (fun n=>qj8 n a a) true:=by
 have hl:a.length≤1048576:=by simp only [qjE] at h;omega
 unfold qj8
 exact Ev.ff (by simp) (Ev.bind (b:=.nxt (a.length:Int)) (qig (eqf:=qjA) (fun x hx=>qwZ (by have:=qd1 (wt:=fun x:qN=>qj4 x) hx;simp only [qjE] at h;omega))
  (fun n=>by simp only [qfU,qk (jb _),cond_false])
  (fun n j x hx=>by
   have hj:=(List.getElem?_eq_some_iff.1 hx).1
   simp only [qfU,qj hj,cond_true,qaq hx,ja,wS j])) .done)
def qlf (x:qal):Prop:=rngS x.Av∧rngI x.Bv∧rngI x.Bt∧rngB x.Bp
def qmh (x:qal):Nat:=x.Av.size
structure qmi (x:qal):Prop where
 Av:okS x.Av
 Bv:okI x.Bv
 Bt:okI x.Bt
 Bp:okT x.Bp
theorem quw {x:qal} (h:qlf x) (w:qmh x≤1048576):qmi x:=⟨(by unfold okS;simp only [qmh] at w;omega),h.2.1,h.2.2.1,trivial⟩
def qjx (a:(List qal)):Nat:=a.length+(a.map fun x=>qmh x).sum
theorem qtI {a:(List qal)} (h:(rngL qlf) a) (w:qjx a≤1048576):(okL qmi) a :=
 ⟨by simp only [qjx] at w;omega,fun x hx=>quw (h.2 x hx) (by have:=qd1 (wt:=fun x:qal=>qmh x) hx;simp only [qjx] at w;omega)⟩
def qjU (x:qz):Prop:=rngS x.Av∧rngI x.Ba∧(rngL qlf) x.Az∧(rngL qk9) x.Am∧(rngL rngI) x.Br∧rngI x.Ca∧rngI x.Bu
def qgz (x:qz):Nat:=x.Av.size+qjx x.Az+qjE x.Am+qcX x.Br
structure qmw (x:qz):Prop where
 Av:okS x.Av
 Ba:okI x.Ba
 Az:(okL qmi) x.Az
 Am:(okL qmQ) x.Am
 Br:(okL okI) x.Br
 Ca:okI x.Ca
 Bu:okI x.Bu
theorem qt4 {x:qz} (h:qjU x) (w:qgz x≤1048576):qmw x:=⟨(by unfold okS;simp only [qgz] at w;omega),h.2.1,qtI (h.2.2.1) (by simp only [qgz] at w;omega),qt3 (h.2.2.2.1) (by simp only [qgz] at w;omega),qdB (h.2.2.2.2.1) (by simp only [qgz] at w;omega),h.2.2.2.2.2.1,h.2.2.2.2.2.2⟩
def qhS (a:(List qz)):Nat:=a.length+(a.map fun x=>qgz x).sum
theorem qsw {a:(List qz)} (h:(rngL qjU) a) (w:qhS a≤1048576):(okL qmw) a :=
 ⟨by simp only [qhS] at w;omega,fun x hx=>qt4 (h.2 x hx) (by have:=qd1 (wt:=fun x:qz=>qgz x) hx;simp only [qhS] at w;omega)⟩
def qko (x:qp):Prop:=(rngL qjU) x.Ap
def qgi (x:qp):Nat:=qhS x.Ap
structure qgZ (x:qp):Prop where
 Ap:(okL qmw) x.Ap
theorem qrd {x:qp} (h:qko x) (w:qgi x≤1048576):qgZ x:=⟨qsw (h) (by simp only [qgi] at w;omega)⟩
def qe6 (x:qn):Prop:=rngS x.Av∧rngI x.Bs∧(rngL rngI) x.Aj
def qcm (x:qn):Nat:=x.Av.size+qcX x.Aj
structure qlQ (x:qn):Prop where
 Av:okS x.Av
 Bs:okI x.Bs
 Aj:(okL okI) x.Aj
theorem qp5 {x:qn} (h:qe6 x) (w:qcm x≤1048576):qlQ x:=⟨(by unfold okS;simp only [qcm] at w;omega),h.2.1,qdB (h.2.2) (by simp only [qcm] at w;omega)⟩
def qc3 (a:(List qn)):Nat:=a.length+(a.map fun x=>qcm x).sum
theorem qpa {a:(List qn)} (h:(rngL qe6) a) (w:qc3 a≤1048576):(okL qlQ) a :=
 ⟨by simp only [qc3] at w;omega,fun x hx=>qp5 (h.2 x hx) (by have:=qd1 (wt:=fun x:qn=>qcm x) hx;simp only [qc3] at w;omega)⟩
def qgj (a:(List ByteArray)):Nat:=a.length+(a.map fun x=>x.size).sum
theorem qqR {a:(List ByteArray)} (_:(rngL rngS) a) (w:qgj a≤1048576):(okL okS) a :=
 ⟨by simp only [qgj] at w;omega,fun x hx=>(by unfold okS;have:=qd1 (wt:=fun x:ByteArray=>x.size) hx;simp only [qgj] at w;omega)⟩
def qjz (x:qaf):Prop:=rngS x.Av∧rngI x.Bv∧rngI x.Bx
def qjC (x:qaf):Nat:=x.Av.size
structure qq3 (x:qaf):Prop where
 Av:okS x.Av
 Bv:okI x.Bv
 Bx:okI x.Bx
theorem qtm {x:qaf} (h:qjz x) (w:qjC x≤1048576):qq3 x:=⟨(by unfold okS;simp only [qjC] at w;omega),h.2.1,h.2.2⟩
def qhp (a:(List qaf)):Nat:=a.length+(a.map fun x=>qjC x).sum
theorem qsX {a:(List qaf)} (h:(rngL qjz) a) (w:qhp a≤1048576):(okL qq3) a :=
 ⟨by simp only [qhp] at w;omega,fun x hx=>qtm (h.2 x hx) (by have:=qd1 (wt:=fun x:qaf=>qjC x) hx;simp only [qhp] at w;omega)⟩
def qk1 (x:qd):Prop:=(rngL qe6) x.Aa∧(rngL rngS) x.Aj∧(rngL qjz) x.Ah
def qfT (x:qd):Nat:=qc3 x.Aa+qgj x.Aj+qhp x.Ah
structure qjn (x:qd):Prop where
 Aa:(okL qlQ) x.Aa
 Aj:(okL okS) x.Aj
 Ah:(okL qq3) x.Ah
theorem qsf {x:qd} (h:qk1 x) (w:qfT x≤1048576):qjn x:=⟨qpa (h.1) (by simp only [qfT] at w;omega),qqR (h.2.1) (by simp only [qfT] at w;omega),qsX (h.2.2) (by simp only [qfT] at w;omega)⟩
def qjW (x:qO):Prop:=(rngL rngI) x.Ai∧(rngL rngI) x.Bw∧(rngL rngI) x.Bt∧(rngL rngI) x.Bj
def qgx (x:qO):Nat:=qcX x.Ai+qcX x.Bw+qcX x.Bt+qcX x.Bj
structure qnt (x:qO):Prop where
 Ai:(okL okI) x.Ai
 Bw:(okL okI) x.Bw
 Bt:(okL okI) x.Bt
 Bj:(okL okI) x.Bj
theorem qug {x:qO} (h:qjW x) (w:qgx x≤1048576):qnt x:=⟨qdB (h.1) (by simp only [qgx] at w;omega),qdB (h.2.1) (by simp only [qgx] at w;omega),qdB (h.2.2.1) (by simp only [qgx] at w;omega),qdB (h.2.2.2) (by simp only [qgx] at w;omega)⟩
def qhh (a:(List qO)):Nat:=a.length+(a.map fun x=>qgx x).sum
theorem qsJ {a:(List qO)} (h:(rngL qjW) a) (w:qhh a≤1048576):(okL qnt) a :=
 ⟨by simp only [qhh] at w;omega,fun x hx=>qug (h.2 x hx) (by have:=qd1 (wt:=fun x:qO=>qgx x) hx;simp only [qhh] at w;omega)⟩
def qmn (x:qe):Prop:=qko x.Au∧qk1 x.Ab∧(rngL qjW) x.Ac
def qhA (x:qe):Nat:=qgi x.Au+qfT x.Ab+qhh x.Ac
structure qkX (x:qe):Prop where
 Au:qgZ x.Au
 Ab:qjn x.Ab
 Ac:(okL qnt) x.Ac
theorem qs4 {x:qe} (h:qmn x) (w:qhA x≤1048576):qkX x:=⟨qrd (h.1) (by simp only [qhA] at w;omega),qsf (h.2.1) (by simp only [qhA] at w;omega),qsJ (h.2.2) (by simp only [qhA] at w;omega)⟩
theorem qwJ {a:qal} (_:qmh a≤1048576):Ev (fun n=>qjF n a a) true:=by
 unfold qjF
 exact Ev.ff qhi (Ev.ff qaM (Ev.ff qaM (Ev.ff qq8 (.done))))
theorem qvY {a:(List qal)} (h:qjx a≤1048576):Ev (fun n=>qj6 n a a) true:=by
 have hl:a.length≤1048576:=by simp only [qjx] at h;omega
 unfold qj6
 exact Ev.ff (by simp) (Ev.bind (b:=.nxt (a.length:Int)) (qig (eqf:=qjF) (fun x hx=>qwJ (by have:=qd1 (wt:=fun x:qal=>qmh x) hx;simp only [qjx] at h;omega))
  (fun n=>by simp only [qfX,qk (jb _),cond_false])
  (fun n j x hx=>by
   have hj:=(List.getElem?_eq_some_iff.1 hx).1
   simp only [qfX,qj hj,cond_true,qaq hx,ja,wS j])) .done)
theorem qvR {a:qz} (h:qgz a≤1048576):Ev (fun n=>qiw n a a) true:=by
 unfold qiw
 simp only [qgz] at h
 exact Ev.ff qhi (Ev.ff qaM (Ev.bind (qvY (a:=a.Az) (by omega)) (Ev.ff rfl (Ev.bind (qwc (a:=a.Am) (by omega)) (Ev.ff rfl (Ev.bind (qfx (a:=a.Br) (by omega)) (Ev.ff rfl (Ev.ff qaM (Ev.ff qaM (.done))))))))))
theorem quZ {a:(List qz)} (h:qhS a≤1048576):Ev (fun n=>qji n a a) true:=by
 have hl:a.length≤1048576:=by simp only [qhS] at h;omega
 unfold qji
 exact Ev.ff (by simp) (Ev.bind (b:=.nxt (a.length:Int)) (qig (eqf:=qiw) (fun x hx=>qvR (by have:=qd1 (wt:=fun x:qz=>qgz x) hx;simp only [qhS] at h;omega))
  (fun n=>by simp only [qfi,qk (jb _),cond_false])
  (fun n j x hx=>by
   have hj:=(List.getElem?_eq_some_iff.1 hx).1
   simp only [qfi,qj hj,cond_true,qaq hx,ja,wS j])) .done)
theorem qsk {a:qp} (h:qgi a≤1048576):Ev (fun n=>qhU n a a) true:=by
 unfold qhU
 simp only [qgi] at h
 exact Ev.bind (quZ (a:=a.Ap) (by omega)) (Ev.ff rfl (.done))
theorem qrx {a:qn} (h:qcm a≤1048576):Ev (fun n=>qfp n a a) true:=by
 unfold qfp
 simp only [qcm] at h
 exact Ev.ff qhi (Ev.ff qaM (Ev.bind (qfx (a:=a.Aj) (by omega)) (Ev.ff rfl (.done))))
theorem qqO {a:(List qn)} (h:qc3 a≤1048576):Ev (fun n=>qgk n a a) true:=by
 have hl:a.length≤1048576:=by simp only [qc3] at h;omega
 unfold qgk
 exact Ev.ff (by simp) (Ev.bind (b:=.nxt (a.length:Int)) (qig (eqf:=qfp) (fun x hx=>qrx (by have:=qd1 (wt:=fun x:qn=>qcm x) hx;simp only [qc3] at h;omega))
  (fun n=>by simp only [qdp,qk (jb _),cond_false])
  (fun n j x hx=>by
   have hj:=(List.getElem?_eq_some_iff.1 hx).1
   simp only [qdp,qj hj,cond_true,qaq hx,ja,wS j])) .done)
theorem qsv {a:(List ByteArray)} (h:qgj a≤1048576):Ev (fun n=>qhn n a a) true:=by
 have hl:a.length≤1048576:=by simp only [qgj] at h;omega
 unfold qhn
 exact Ev.ff (by simp) (Ev.bind (b:=.nxt (a.length:Int)) (qig (eqf:=fun _ x y=>some (!(x.toList != y.toList))) (fun x _=>Ev.now (by simp))
  (fun n=>by simp only [qeg,qk (jb _),cond_false])
  (fun n j x hx=>by
   have hj:=(List.getElem?_eq_some_iff.1 hx).1
   simp only [qeg,qj hj,cond_true,qaq hx,ja,Bool.not_not,wS j])) .done)
theorem qwd {a:qaf} (_:qjC a≤1048576):Ev (fun n=>qiE n a a) true:=by
 unfold qiE
 exact Ev.ff qhi (Ev.ff qaM (Ev.ff qaM (.done)))
theorem qvo {a:(List qaf)} (h:qhp a≤1048576):Ev (fun n=>qi8 n a a) true:=by
 have hl:a.length≤1048576:=by simp only [qhp] at h;omega
 unfold qi8
 exact Ev.ff (by simp) (Ev.bind (b:=.nxt (a.length:Int)) (qig (eqf:=qiE) (fun x hx=>qwd (by have:=qd1 (wt:=fun x:qaf=>qjC x) hx;simp only [qhp] at h;omega))
  (fun n=>by simp only [qff,qk (jb _),cond_false])
  (fun n j x hx=>by
   have hj:=(List.getElem?_eq_some_iff.1 hx).1
   simp only [qff,qj hj,cond_true,qaq hx,ja,wS j])) .done)
theorem qtp {a:qd} (h:qfT a≤1048576):Ev (fun n=>qis n a a) true:=by
 unfold qis
 simp only [qfT] at h
 exact Ev.bind (qqO (a:=a.Aa) (by omega)) (Ev.ff rfl (Ev.bind (qsv (a:=a.Aj) (by omega)) (Ev.ff rfl (Ev.bind (qvo (a:=a.Ah) (by omega)) (Ev.ff rfl (.done))))))
theorem qvZ {a:qO} (h:qgx a≤1048576):Ev (fun n=>qiF n a a) true:=by
 unfold qiF
 simp only [qgx] at h
 exact Ev.bind (qfx (a:=a.Ai) (by omega)) (Ev.ff rfl (Ev.bind (qfx (a:=a.Bw) (by omega)) (Ev.ff rfl (Ev.bind (qfx (a:=a.Bt) (by omega)) (Ev.ff rfl (Ev.bind (qfx (a:=a.Bj) (by omega)) (Ev.ff rfl (.done))))))))
theorem quM {a:(List qO)} (h:qhh a≤1048576):Ev (fun n=>qi6 n a a) true:=by
 have hl:a.length≤1048576:=by simp only [qhh] at h;omega
 unfold qi6
 exact Ev.ff (by simp) (Ev.bind (b:=.nxt (a.length:Int)) (qig (eqf:=qiF) (fun x hx=>qvZ (by have:=qd1 (wt:=fun x:qO=>qgx x) hx;simp only [qhh] at h;omega))
  (fun n=>by simp only [qfq,qk (jb _),cond_false])
  (fun n j x hx=>by
   have hj:=(List.getElem?_eq_some_iff.1 hx).1
   simp only [qfq,qj hj,cond_true,qaq hx,ja,wS j])) .done)
theorem quC {a:qe} (h:qhA a≤1048576):Ev (fun n=>qi9 n a a) true:=by
 unfold qi9
 simp only [qhA] at h
 exact Ev.bind (qsk (a:=a.Au) (by omega)) (Ev.ff rfl (Ev.bind (qtp (a:=a.Ab) (by omega)) (Ev.ff rfl (Ev.bind (quM (a:=a.Ac) (by omega)) (Ev.ff rfl (.done))))))
theorem qfE {a:(List Int)} {left:Int} (h:(rngL rngI) a) (h0:0≤left) (h1:left≤1048576):Sz (fun n=>qbC n a left) (fun r=>r=left-(qcX a:Int)) :=
 Sz.less h0 h1 (by omega) (by have:=h.1;omega) (fun _=>rfl)
theorem qvy {a:qv} {left:Int} (h:qha a) (h0:0≤left) (h1:left≤1048576):Sz (fun n=>qhI n a left) (fun r=>r=left-(qe3 a:Int)):=by
 unfold qhI
 obtain ⟨h_0,h_1,h_2⟩:=h
 exact Sz.step (qfE (a:=a.Bl) h_0 (by omega) (by omega)) fun r0 p0 q0=>Sz.step (qfE (a:=a.Bh) h_1 (by omega) (by omega)) fun r1 p1 q1=>Sz.step (qfE (a:=a.Bf) h_2 (by omega) (by omega)) fun r2 p2 q2=>Sz.done p2 (by simp only [qe3];omega)
theorem qqF {a:(List qv)} {left:Int} (h:(rngL qha) a) (h0:0≤left) (h1:left≤1048576):Sz (fun n=>qip n a left) (fun r=>r=left-(qfn a:Int)) :=
 Sz.list (Lf:=qdH a) (wt:=fun x:qv=>qe3 x) (el:=qhI) h0 h1 h.1 (fun x hx left p q=>qvy (h.2 x hx) p q)
  (fun acc n=>by simp only [qdH,qk (jb _),cond_false])
  (fun acc n j x hx=>by
   have hj:=(List.getElem?_eq_some_iff.1 hx).1
   have hl:=h.1
   simp only [qdH,qj hj,cond_true,qaq hx,ja,wS j])
  (fun _=>rfl)
theorem qxd {a:qN} {left:Int} (h:qk9 a) (h0:0≤left) (h1:left≤1048576):Sz (fun n=>qjD n a left) (fun r=>r=left-(qj4 a:Int)):=by
 unfold qjD
 obtain ⟨h_0,h_1,h_2,h_3,h_4,h_5⟩:=h
 exact Sz.step (qqF (a:=a.Bq) h_4 (by omega) (by omega)) fun r0 p0 q0=>Sz.step (qqF (a:=a.Bc) h_5 (by omega) (by omega)) fun r1 p1 q1=>Sz.done p1 (by simp only [qj4];omega)
theorem qv8 {a:(List qN)} {left:Int} (h:(rngL qk9) a) (h0:0≤left) (h1:left≤1048576):Sz (fun n=>qlZ n a left) (fun r=>r=left-(qjE a:Int)) :=
 Sz.list (Lf:=qeG a) (wt:=fun x:qN=>qj4 x) (el:=qjD) h0 h1 h.1 (fun x hx left p q=>qxd (h.2 x hx) p q)
  (fun acc n=>by simp only [qeG,qk (jb _),cond_false])
  (fun acc n j x hx=>by
   have hj:=(List.getElem?_eq_some_iff.1 hx).1
   have hl:=h.1
   simp only [qeG,qj hj,cond_true,qaq hx,ja,wS j])
  (fun _=>rfl)
theorem qwL {a:qal} {left:Int} (h:qlf a) (h0:0≤left) (h1:left≤1048576):Sz (fun n=>qjL n a left) (fun r=>r=left-(qmh a:Int)):=by
 unfold qjL
 obtain ⟨h_0,h_1,h_2,h_3⟩:=h
 exact Sz.strStep h_0 (by omega) (by omega) fun p0 q0=>Sz.done p0 (by simp only [qmh];omega)
theorem qvL {a:(List qal)} {left:Int} (h:(rngL qlf) a) (h0:0≤left) (h1:left≤1048576):Sz (fun n=>ql0 n a left) (fun r=>r=left-(qjx a:Int)) :=
 Sz.list (Lf:=qeE a) (wt:=fun x:qal=>qmh x) (el:=qjL) h0 h1 h.1 (fun x hx left p q=>qwL (h.2 x hx) p q)
  (fun acc n=>by simp only [qeE,qk (jb _),cond_false])
  (fun acc n j x hx=>by
   have hj:=(List.getElem?_eq_some_iff.1 hx).1
   have hl:=h.1
   simp only [qeE,qj hj,cond_true,qaq hx,ja,wS j])
  (fun _=>rfl)
theorem qv7 {a:qz} {left:Int} (h:qjU a) (h0:0≤left) (h1:left≤1048576):Sz (fun n=>qiL n a left) (fun r=>r=left-(qgz a:Int)):=by
 unfold qiL
 obtain ⟨h_0,h_1,h_2,h_3,h_4,h_5,h_6⟩:=h
 exact Sz.strStep h_0 (by omega) (by omega) fun p0 q0=>Sz.step (qvL (a:=a.Az) h_2 (by omega) (by omega)) fun r1 p1 q1=>Sz.step (qv8 (a:=a.Am) h_3 (by omega) (by omega)) fun r2 p2 q2=>Sz.step (qfE (a:=a.Br) h_4 (by omega) (by omega)) fun r3 p3 q3=>Sz.done p3 (by simp only [qgz];omega)
theorem quN {a:(List qz)} {left:Int} (h:(rngL qjU) a) (h0:0≤left) (h1:left≤1048576):Sz (fun n=>qlq n a left) (fun r=>r=left-(qhS a:Int)) :=
 Sz.list (Lf:=qd3 a) (wt:=fun x:qz=>qgz x) (el:=qiL) h0 h1 h.1 (fun x hx left p q=>qv7 (h.2 x hx) p q)
  (fun acc n=>by simp only [qd3,qk (jb _),cond_false])
  (fun acc n j x hx=>by
   have hj:=(List.getElem?_eq_some_iff.1 hx).1
   have hl:=h.1
   simp only [qd3,qj hj,cond_true,qaq hx,ja,wS j])
  (fun _=>rfl)
theorem qs3 {a:qp} {left:Int} (h:qko a) (h0:0≤left) (h1:left≤1048576):Sz (fun n=>qhq n a left) (fun r=>r=left-(qgi a:Int)):=by
 unfold qhq
 have h_0:=h
 exact Sz.step (quN (a:=a.Ap) h_0 (by omega) (by omega)) fun r0 p0 q0=>Sz.done p0 (by simp only [qgi];omega)
theorem qrT {a:qn} {left:Int} (h:qe6 a) (h0:0≤left) (h1:left≤1048576):Sz (fun n=>qfg n a left) (fun r=>r=left-(qcm a:Int)):=by
 unfold qfg
 obtain ⟨h_0,h_1,h_2⟩:=h
 exact Sz.strStep h_0 (by omega) (by omega) fun p0 q0=>Sz.step (qfE (a:=a.Aj) h_2 (by omega) (by omega)) fun r1 p1 q1=>Sz.done p1 (by simp only [qcm];omega)
theorem qrf {a:(List qn)} {left:Int} (h:(rngL qe6) a) (h0:0≤left) (h1:left≤1048576):Sz (fun n=>qh7 n a left) (fun r=>r=left-(qc3 a:Int)) :=
 Sz.list (Lf:=qco a) (wt:=fun x:qn=>qcm x) (el:=qfg) h0 h1 h.1 (fun x hx left p q=>qrT (h.2 x hx) p q)
  (fun acc n=>by simp only [qco,qk (jb _),cond_false])
  (fun acc n j x hx=>by
   have hj:=(List.getElem?_eq_some_iff.1 hx).1
   have hl:=h.1
   simp only [qco,qj hj,cond_true,qaq hx,ja,wS j])
  (fun _=>rfl)
theorem qsH {a:(List ByteArray)} {left:Int} (h:(rngL rngS) a) (h0:0≤left) (h1:left≤1048576):Sz (fun n=>qjw n a left) (fun r=>r=left-(qgj a:Int)) :=
 Sz.list (Lf:=qda a) (wt:=fun x:ByteArray=>x.size) (el:=fun _ (x:ByteArray) acc=>some (W64 (acc-(x.size:Int)))) h0 h1 h.1 (fun x hx left p q=>Sz.str (h.2 x hx) p q)
  (fun acc n=>by simp only [qda,qk (jb _),cond_false])
  (fun acc n j x hx=>by
   have hj:=(List.getElem?_eq_some_iff.1 hx).1
   have hl:=h.1
   simp only [qda,qj hj,cond_true,qaq hx,ja,wS j])
  (fun _=>rfl)
theorem qvX {a:qaf} {left:Int} (h:qjz a) (h0:0≤left) (h1:left≤1048576):Sz (fun n=>qit n a left) (fun r=>r=left-(qjC a:Int)):=by
 unfold qit
 obtain ⟨h_0,h_1,h_2⟩:=h
 exact Sz.strStep h_0 (by omega) (by omega) fun p0 q0=>Sz.done p0 (by simp only [qjC];omega)
theorem quH {a:(List qaf)} {left:Int} (h:(rngL qjz) a) (h0:0≤left) (h1:left≤1048576):Sz (fun n=>qlj n a left) (fun r=>r=left-(qhp a:Int)) :=
 Sz.list (Lf:=qd6 a) (wt:=fun x:qaf=>qjC x) (el:=qit) h0 h1 h.1 (fun x hx left p q=>qvX (h.2 x hx) p q)
  (fun acc n=>by simp only [qd6,qk (jb _),cond_false])
  (fun acc n j x hx=>by
   have hj:=(List.getElem?_eq_some_iff.1 hx).1
   have hl:=h.1
   simp only [qd6,qj hj,cond_true,qaq hx,ja,wS j])
  (fun _=>rfl)
theorem qub {a:qd} {left:Int} (h:qk1 a) (h0:0≤left) (h1:left≤1048576):Sz (fun n=>qio n a left) (fun r=>r=left-(qfT a:Int)):=by
 unfold qio
 obtain ⟨h_0,h_1,h_2⟩:=h
 exact Sz.step (qrf (a:=a.Aa) h_0 (by omega) (by omega)) fun r0 p0 q0=>Sz.step (qsH (a:=a.Aj) h_1 (by omega) (by omega)) fun r1 p1 q1=>Sz.step (quH (a:=a.Ah) h_2 (by omega) (by omega)) fun r2 p2 q2=>Sz.done p2 (by simp only [qfT];omega)
theorem qwr {a:qO} {left:Int} (h:qjW a) (h0:0≤left) (h1:left≤1048576):Sz (fun n=>qiH n a left) (fun r=>r=left-(qgx a:Int)):=by
 unfold qiH
 obtain ⟨h_0,h_1,h_2,h_3⟩:=h
 exact Sz.step (qfE (a:=a.Ai) h_0 (by omega) (by omega)) fun r0 p0 q0=>Sz.step (qfE (a:=a.Bw) h_1 (by omega) (by omega)) fun r1 p1 q1=>Sz.step (qfE (a:=a.Bt) h_2 (by omega) (by omega)) fun r2 p2 q2=>Sz.step (qfE (a:=a.Bj) h_3 (by omega) (by omega)) fun r3 p3 q3=>Sz.done p3 (by simp only [qgx];omega)
theorem quW {a:(List qO)} {left:Int} (h:(rngL qjW) a) (h0:0≤left) (h1:left≤1048576):Sz (fun n=>qk4 n a left) (fun r=>r=left-(qhh a:Int)) :=
 Sz.list (Lf:=qd7 a) (wt:=fun x:qO=>qgx x) (el:=qiH) h0 h1 h.1 (fun x hx left p q=>qwr (h.2 x hx) p q)
  (fun acc n=>by simp only [qd7,qk (jb _),cond_false])
  (fun acc n j x hx=>by
   have hj:=(List.getElem?_eq_some_iff.1 hx).1
   have hl:=h.1
   simp only [qd7,qj hj,cond_true,qaq hx,ja,wS j])
  (fun _=>rfl)
theorem qvz {a:qe} {left:Int} (h:qmn a) (h0:0≤left) (h1:left≤1048576):Sz (fun n=>qi1 n a left) (fun r=>r=left-(qhA a:Int)):=by
 unfold qi1
 obtain ⟨h_0,h_1,h_2⟩:=h
 exact Sz.step (qs3 (a:=a.Au) h_0 (by omega) (by omega)) fun r0 p0 q0=>Sz.step (qub (a:=a.Ab) h_1 (by omega) (by omega)) fun r1 p1 q1=>Sz.step (quW (a:=a.Ac) h_2 (by omega) (by omega)) fun r2 p2 q2=>Sz.done p2 (by simp only [qhA];omega)
theorem qfC {a:(List Int)} (h:qcX a≤1048576):Ev (fun n=>qbl n a) a:=by
 have hl:a.length≤1048576:=by simp only [qcX] at h;omega
 unfold qbl
 exact Ev.bindN (qhv (by omega)) (Ev.bind (b:=(a,(a.length:Int))) (qiq (cp:=fun _ x=>some x) (fun _ _=>.done)
  (fun acc n=>by simp only [qeX,qk (jb _),cond_false])
  (fun acc n j x y hx hy=>by
   have hj:=(List.getElem?_eq_some_iff.1 hx).1
   simp only [qeX,qj hj,cond_true,qaq hx,qaq hy,ja,wS j])) .done)
theorem quT {a:qv} (h:qe3 a≤1048576):Ev (fun n=>qhw n a) a:=by
 unfold qhw
 simp only [qe3] at h
 exact Ev.bind (qfC (a:=a.Bl) (by omega)) (Ev.bind (qfC (a:=a.Bh) (by omega)) (Ev.bind (qfC (a:=a.Bf) (by omega)) (.done)))
theorem qqH {a:(List qv)} (h:qfn a≤1048576):Ev (fun n=>qgD n a) a:=by
 have hl:a.length≤1048576:=by simp only [qfn] at h;omega
 unfold qgD
 exact Ev.bindN (qhv (by omega)) (Ev.bind (b:=(a,(a.length:Int))) (qiq (cp:=qhw) (fun x hx=>quT (by have:=qd1 (wt:=fun x:qv=>qe3 x) hx;simp only [qfn] at h;omega))
  (fun acc n=>by simp only [qeV,qk (jb _),cond_false])
  (fun acc n j x y hx hy=>by
   have hj:=(List.getElem?_eq_some_iff.1 hx).1
   simp only [qeV,qj hj,cond_true,qaq hx,qaq hy,ja,wS j])) .done)
theorem qxa {a:qN} (h:qj4 a≤1048576):Ev (fun n=>qjX n a) a:=by
 unfold qjX
 simp only [qj4] at h
 exact Ev.bind (qqH (a:=a.Bq) (by omega)) (Ev.bind (qqH (a:=a.Bc) (by omega)) (.done))
theorem qvS {a:(List qN)} (h:qjE a≤1048576):Ev (fun n=>qkf n a) a:=by
 have hl:a.length≤1048576:=by simp only [qjE] at h;omega
 unfold qkf
 exact Ev.bindN (qhv (by omega)) (Ev.bind (b:=(a,(a.length:Int))) (qiq (cp:=qjX) (fun x hx=>qxa (by have:=qd1 (wt:=fun x:qN=>qj4 x) hx;simp only [qjE] at h;omega))
  (fun acc n=>by simp only [qf7,qk (jb _),cond_false])
  (fun acc n j x y hx hy=>by
   have hj:=(List.getElem?_eq_some_iff.1 hx).1
   simp only [qf7,qj hj,cond_true,qaq hx,qaq hy,ja,wS j])) .done)
theorem qwU {a:qal} (_:qmh a≤1048576):Ev (fun n=>qjI n a) a:=by
 unfold qjI
 exact .done
theorem qvV {a:(List qal)} (h:qjx a≤1048576):Ev (fun n=>qke n a) a:=by
 have hl:a.length≤1048576:=by simp only [qjx] at h;omega
 unfold qke
 exact Ev.bindN (qhv (by omega)) (Ev.bind (b:=(a,(a.length:Int))) (qiq (cp:=qjI) (fun x hx=>qwU (by have:=qd1 (wt:=fun x:qal=>qmh x) hx;simp only [qjx] at h;omega))
  (fun acc n=>by simp only [qf2,qk (jb _),cond_false])
  (fun acc n j x y hx hy=>by
   have hj:=(List.getElem?_eq_some_iff.1 hx).1
   simp only [qf2,qj hj,cond_true,qaq hx,qaq hy,ja,wS j])) .done)
theorem qvT {a:qz} (h:qgz a≤1048576):Ev (fun n=>qiQ n a) a:=by
 unfold qiQ
 simp only [qgz] at h
 exact Ev.bind (qvV (a:=a.Az) (by omega)) (Ev.bind (qvS (a:=a.Am) (by omega)) (Ev.bind (qfC (a:=a.Br) (by omega)) (.done)))
theorem qur {a:(List qz)} (h:qhS a≤1048576):Ev (fun n=>qje n a) a:=by
 have hl:a.length≤1048576:=by simp only [qhS] at h;omega
 unfold qje
 exact Ev.bindN (qhv (by omega)) (Ev.bind (b:=(a,(a.length:Int))) (qiq (cp:=qiQ) (fun x hx=>qvT (by have:=qd1 (wt:=fun x:qz=>qgz x) hx;simp only [qhS] at h;omega))
  (fun acc n=>by simp only [qfk,qk (jb _),cond_false])
  (fun acc n j x y hx hy=>by
   have hj:=(List.getElem?_eq_some_iff.1 hx).1
   simp only [qfk,qj hj,cond_true,qaq hx,qaq hy,ja,wS j])) .done)
theorem qsP {a:qp} (h:qgi a≤1048576):Ev (fun n=>qhO n a) a:=by
 unfold qhO
 simp only [qgi] at h
 exact Ev.bind (qur (a:=a.Ap) (by omega)) (.done)
theorem qr9 {a:qn} (h:qcm a≤1048576):Ev (fun n=>qfo n a) a:=by
 unfold qfo
 simp only [qcm] at h
 exact Ev.bind (qfC (a:=a.Aj) (by omega)) (.done)
theorem qrl {a:(List qn)} (h:qc3 a≤1048576):Ev (fun n=>qgo n a) a:=by
 have hl:a.length≤1048576:=by simp only [qc3] at h;omega
 unfold qgo
 exact Ev.bindN (qhv (by omega)) (Ev.bind (b:=(a,(a.length:Int))) (qiq (cp:=qfo) (fun x hx=>qr9 (by have:=qd1 (wt:=fun x:qn=>qcm x) hx;simp only [qc3] at h;omega))
  (fun acc n=>by simp only [qdo,qk (jb _),cond_false])
  (fun acc n j x y hx hy=>by
   have hj:=(List.getElem?_eq_some_iff.1 hx).1
   simp only [qdo,qj hj,cond_true,qaq hx,qaq hy,ja,wS j])) .done)
theorem qsu {a:(List ByteArray)} (h:qgj a≤1048576):Ev (fun n=>qhL n a) a:=by
 have hl:a.length≤1048576:=by simp only [qgj] at h;omega
 unfold qhL
 exact Ev.bindN (qhv (by omega)) (Ev.bind (b:=(a,(a.length:Int))) (qiq (cp:=fun _ x=>some x) (fun _ _=>.done)
  (fun acc n=>by simp only [qep,qk (jb _),cond_false])
  (fun acc n j x y hx hy=>by
   have hj:=(List.getElem?_eq_some_iff.1 hx).1
   simp only [qep,qj hj,cond_true,qaq hx,qaq hy,ja,wS j])) .done)
theorem qv2 {a:qaf} (_:qjC a≤1048576):Ev (fun n=>qiB n a) a:=by
 unfold qiB
 exact .done
theorem quI {a:(List qaf)} (h:qhp a≤1048576):Ev (fun n=>qjc n a) a:=by
 have hl:a.length≤1048576:=by simp only [qhp] at h;omega
 unfold qjc
 exact Ev.bindN (qhv (by omega)) (Ev.bind (b:=(a,(a.length:Int))) (qiq (cp:=qiB) (fun x hx=>qv2 (by have:=qd1 (wt:=fun x:qaf=>qjC x) hx;simp only [qhp] at h;omega))
  (fun acc n=>by simp only [qfj,qk (jb _),cond_false])
  (fun acc n j x y hx hy=>by
   have hj:=(List.getElem?_eq_some_iff.1 hx).1
   simp only [qfj,qj hj,cond_true,qaq hx,qaq hy,ja,wS j])) .done)
theorem qtV {a:qd} (h:qfT a≤1048576):Ev (fun n=>qif n a) a:=by
 unfold qif
 simp only [qfT] at h
 exact Ev.bind (qrl (a:=a.Aa) (by omega)) (Ev.bind (qsu (a:=a.Aj) (by omega)) (Ev.bind (quI (a:=a.Ah) (by omega)) (.done)))
theorem qvM {a:qO} (h:qgx a≤1048576):Ev (fun n=>qiD n a) a:=by
 unfold qiD
 simp only [qgx] at h
 exact Ev.bind (qfC (a:=a.Ai) (by omega)) (Ev.bind (qfC (a:=a.Bw) (by omega)) (Ev.bind (qfC (a:=a.Bt) (by omega)) (Ev.bind (qfC (a:=a.Bj) (by omega)) (.done))))
theorem qvB {a:(List qO)} (h:qhh a≤1048576):Ev (fun n=>qjl n a) a:=by
 have hl:a.length≤1048576:=by simp only [qhh] at h;omega
 unfold qjl
 exact Ev.bindN (qhv (by omega)) (Ev.bind (b:=(a,(a.length:Int))) (qiq (cp:=qiD) (fun x hx=>qvM (by have:=qd1 (wt:=fun x:qO=>qgx x) hx;simp only [qhh] at h;omega))
  (fun acc n=>by simp only [qfr,qk (jb _),cond_false])
  (fun acc n j x y hx hy=>by
   have hj:=(List.getElem?_eq_some_iff.1 hx).1
   simp only [qfr,qj hj,cond_true,qaq hx,qaq hy,ja,wS j])) .done)
theorem qum {a:qe} (h:qhA a≤1048576):Ev (fun n=>qja n a) a:=by
 unfold qja
 simp only [qhA] at h
 exact Ev.bind (qsP (a:=a.Au) (by omega)) (Ev.bind (qtV (a:=a.Ab) (by omega)) (Ev.bind (qvB (a:=a.Ac) (by omega)) (.done)))
end Go.Fw


namespace Go.Fw
open Go
set_option maxRecDepth 100000
theorem qcG {n:Nat} {x lo hi:Int}:qao n x lo hi=some (inI x lo hi):=by
 simp only [qao,ql7,qnr];rfl
theorem qc9 {n:Nat} {x lo hi:Int}:qaF n x lo hi=some (inI x lo hi):=by
 simp only [qaF,ql7,qnr];rfl
def bt (s:ByteArray) (j:Nat):Nat:=(s.data.toList.getD j 0).toNat
theorem qun {s:ByteArray} {j:Nat} (h:j<s.size):atS s (j:Int)=some (bt s j:Int):=by
 have h':j<s.data.size:=h
 have hl:j<s.data.toList.length:=by simpa using h'
 unfold atS
 rw [if_pos (by omega),jo]
 have:s[j]?=some (s.data.toList.getD j 0):=by
  rw [getElem?_pos s j h,jy,jf hl]
  rfl
 rw [this]
 rfl
def letB (b:Nat):Bool:=decide (97≤b)&&decide (b≤122)
def digB (b:Nat):Bool:=decide (48≤b)&&decide (b≤57)
def chB (s:ByteArray) (j:Nat):Bool:=letB (bt s j) || digB (bt s j)&&decide (0<j)
def nameB (s:ByteArray):Bool:=(decide (1≤s.size)&&decide (s.size≤8))&&allN (chB s) s.size
theorem qkZ {s:ByteArray} (h:okS s):Ev (fun n=>qfe n s) (nameB s):=by
 unfold okS at h
 have hL:Ev (fun n=>qdj s n 0) (bif allN (chB s) s.size then .nxt (s.size:Int) else .ret false):=by
  refine qdU ?_ (fun j hj X hX=>?_)
  ·exact Ev.succ (by simp only [qdj,qk (jb _),cond_false];exact .done)
  ·refine Ev.succ ?_
   simp only [qdj,qj hj,cond_true,qun hj,ja,ql7,qnr,wS j]
   have e1:(decide ((bt s j:Int) ≥ 97)&&decide ((bt s j:Int)≤122))=letB (bt s j):=by unfold letB;rw [jh];simp;omega
   have e2:(decide ((bt s j:Int) ≥ 48)&&decide ((bt s j:Int)≤57))=digB (bt s j):=by unfold digB;rw [jh];simp;omega
   have e3:decide ((j:Int) > 0)=decide (0<j):=by rw [jh];simp
   rw [e1,e2,e3]
   unfold chB
   cases letB (bt s j)<;>cases digB (bt s j)<;>cases decide (0<j)<;>first|exact hX|exact .done
 unfold qfe
 refine Ev.cast (r:=bif allN (chB s) s.size then (decide (1≤s.size)&&decide (s.size≤8)) else false) (Ev.bindB hL (fun _=>?_) (fun _=>.done)) ?_
 ·simp only [ql7,qnr]
  exact Ev.now (by congr 1;rw [jh];simp;omega)
 ·unfold nameB
  cases allN (chB s) s.size<;>simp
def cutset:List UInt8:=[97,98,99,100,101,102,103,104,105,106,107,108,109,110,111,112,113,114,115,116,117,118,119,120,121,122,48,49,50,51,52,53,54,55,56,57]
theorem qpI (b:UInt8):cutset.contains b=(letB b.toNat || digB b.toNat):=by
 have h0:(List.range 256).all (fun m=>cutset.contains (UInt8.ofNat m)==(letB (UInt8.ofNat m).toNat || digB (UInt8.ofNat m).toNat))=true:=by kernel_rfl
 have h:=List.all_eq_true.1 h0 b.toNat (List.mem_range.2 b.toNat_lt)
 rw [beq_iff_eq] at h
 simpa using h
def letters:List UInt8:=[97,98,99,100,101,102,103,104,105,106,107,108,109,110,111,112,113,114,115,116,117,118,119,120,121,122]
theorem qsq (m:Nat) (hm:m<256):decide ((Lib.indexByte letters m.toUInt8) ≥ 0)=letB m:=by
 have h0:(List.range 256).all (fun m=>decide ((Lib.indexByte letters m.toUInt8) ≥ 0)==letB m)=true:=by kernel_rfl
 have h:=List.all_eq_true.1 h0 m (List.mem_range.2 hm)
 rwa [beq_iff_eq] at h
theorem qpW {α:Type} {p:α→Bool} {l:List α}:l.dropWhile p=[]↔∀ x,x ∈ l→p x=true:=by
 induction l with
 | nil=>simp
 | cons y l ih =>
  rw [List.dropWhile_cons]
  by_cases h:p y=true
  ·rw [if_pos h,ih];simp [h]
  ·rw [if_neg h];simp [h]
theorem qp2 {α:Type} {p:α→Bool} {l:List α} (h:∀ x,x ∈ l.dropWhile p→p x=true):∀ x,x ∈ l→p x=true:=by
 induction l with
 | nil=>simp
 | cons y l ih =>
  rw [List.dropWhile_cons] at h
  by_cases hy:p y=true
  ·rw [if_pos hy] at h
   intro x hx
   rcases List.mem_cons.1 hx with rfl|hx
   ·exact hy
   ·exact ih h x hx
  ·rw [if_neg hy] at h
   exact h
theorem qvd {l cs:List UInt8}:Lib.trimS l cs=[]↔∀ x,x ∈ l→cs.contains x=true:=by
 unfold Lib.trimS Lib.trimRightS Lib.trimLeftS
 rw [qpW]
 constructor
 ·intro h x hx
  exact qp2 (p:=(cs.contains ·)) (l:=l.reverse) (fun y hy=>h y (List.mem_reverse.2 hy)) x (List.mem_reverse.2 hx)
 ·intro h x hx
  exact h x (List.mem_reverse.1 ((List.dropWhile_suffix _).subset (List.mem_reverse.1 hx)))
theorem qgR {a b:ByteArray}:(a.toList==b.toList)=decide (a=b):=by
 rw [jh,beq_iff_eq,decide_eq_true_iff]
 constructor
 ·intro h
  exact ByteArray.ext (by have:=congrArg List.toArray h;simpa [ByteArray.toList_eq] using this)
 ·rintro rfl;rfl
end Go.Fw


namespace Go.Fw
open Go
set_option maxRecDepth 100000
theorem qwA {s:ByteArray} {j:Nat} (h:j<s.data.toList.length):bt s j=(s.data.toList[j]).toNat:=by
 unfold bt;rw [jy,jf h];rfl
theorem qxl {s:ByteArray} {j:Nat}:bt s j<256:=UInt8.toNat_lt _
theorem qod {n:Nat} {s:ByteArray} (h:okS s):qhc n s=some (nameB s):=by
 unfold okS at h
 have hl:s.data.toList.length=s.size:=by simp
 simp only [qhc,qc9,ja]
 cases hI:inI (s.size:Int) 1 8 with
 | false =>
  have hs:(decide (1≤s.size)&&decide (s.size≤8))=false:=by rw [qtO] at hI;rw [Bool.and_eq_false_iff,decide_eq_false_iff_not,decide_eq_false_iff_not];omega
  simp [nameB,hs]
 | true =>
  have hs:1≤s.size∧s.size≤8:=by rw [qa6] at hI;omega
  have hT:qhQ n s (⟨#[97,98,99,100,101,102,103,104,105,106,107,108,109,110,111,112,113,114,115,116,117,118,119,120,121,122,48,49,50,51,52,53,54,55,56,57]⟩:ByteArray)=some ⟨(Lib.trimS s.data.toList cutset).toArray⟩:=by
   unfold qhQ
   rw [if_pos ⟨by omega,by decide,by decide⟩]
   rfl
  rw [hT]
  simp only [cond_true,ja]
  have hE:(((⟨(Lib.trimS s.data.toList cutset).toArray⟩:ByteArray).toList==(⟨#[]⟩:ByteArray).toList))=allN (fun j=>letB (bt s j) || digB (bt s j)) s.size:=by
   rw [qgR,jh,decide_eq_true_iff,qai]
   have:((⟨(Lib.trimS s.data.toList cutset).toArray⟩:ByteArray)=⟨#[]⟩)↔Lib.trimS s.data.toList cutset=[]:=by
    constructor
    ·intro he
     have:=congrArg (fun x:ByteArray=>x.data.toList) he
     simpa using this
    ·intro he;rw [he]
   rw [this,qvd]
   constructor
   ·intro hx j hj
    have hj':j<s.data.toList.length:=by omega
    have:=hx _ (jp hj')
    rw [qpI,←qwA hj'] at this
    exact this
   ·intro hx x hm
    obtain ⟨j,hj,rfl⟩:=jL hm
    have:=hx j (by omega)
    rw [qpI,←qwA hj]
    exact this
  rw [hE]
  have h0:atS s 0=some (bt s 0:Int):=qun (j:=0) (by omega)
  have hI2:decide (Lib.indexByte letters (bt s 0:Int).toNat.toUInt8 ≥ 0)=letB (bt s 0):=by
   rw [jo];exact qsq _ qxl
  have hF:∀ b:Bool,(bif b then (atS s 0).bind fun y1=>(qfQ n (⟨#[97,98,99,100,101,102,103,104,105,106,107,108,109,110,111,112,113,114,115,116,117,118,119,120,121,122]⟩:ByteArray) (⟨y1⟩:IntK .u8)).bind fun r3=>some (decide (r3 ≥ 0)) else some false)=some (b&&letB (bt s 0)):=by
   intro b
   cases b with
   | false=>rfl
   | true =>
    rw [h0]
    simp only [cond_true,ja,qfQ,jv]
    exact congrArg some hI2
  rw [hF]
  congr 1
  have hs':(decide (1≤s.size)&&decide (s.size≤8))=true:=by simp [hs]
  unfold nameB
  rw [hs',jv,jh,jc,qai,qai]
  simp only [chB,Bool.or_eq_true,jc,decide_eq_true_eq]
  constructor
  ·rintro ⟨h1,h2⟩ j hj
   rcases Nat.eq_zero_or_pos j with rfl|hp
   ·exact .inl h2
   ·exact (h1 j hj).imp id (fun h=>⟨h,hp⟩)
  ·intro h1
   refine ⟨fun j hj=>(h1 j hj).imp id (fun h=>h.1),?_⟩
   rcases h1 0 (by omega) with h2|h2
   ·exact h2
   ·omega
def strAt (xs:List ByteArray) (j:Nat):ByteArray:=xs.getD j ByteArray.empty
theorem qnu {xs:List ByteArray} {j:Nat} (h:j<xs.length):strAt xs j=xs[j]:=by simp [strAt,h]
theorem qoY {xs:List ByteArray} {j:Nat} (h:j<xs.length):idx xs (j:Int)=some (strAt xs j):=by rw [qhC h,qnu h]
def neB (xs:List ByteArray) (j i:Nat):Bool:=!decide (strAt xs i=strAt xs j)
def namesB (xs:List ByteArray):Bool:=allN (fun j=>nameB (strAt xs j)&&allN (neB xs j) j) xs.length
theorem qma {xs:List ByteArray} (h:okL okS xs):Ev (fun n=>qfF n xs) (namesB xs):=by
 have hl:=h.len
 have hL2:∀ j,j<xs.length→Ev (fun n=>qdL xs (j:Int) n 0) (bif allN (neB xs j) j then .nxt (j:Int) else .ret false):=by
  intro j hj
  refine qdU ?_ (fun i hi X hX=>Ev.succ ?_)
  ·exact Ev.succ (by simp only [qdL,qk (jb _),cond_false];exact .done)
  ·simp only [qdL,qj hi,cond_true,qoY (show i<xs.length by omega),qoY hj,ja,qgR,wS i]
   unfold neB
   cases decide (strAt xs i=strAt xs j)
   ·exact hX
   ·exact .done
 have hL1:Ev (fun n=>qdF xs n 0) (bif namesB xs then .nxt (xs.length:Int) else .ret false):=by
  refine qdU ?_ (fun j hj X hX=>Ev.succ ?_)
  ·exact Ev.succ (by simp only [qdF,qk (jb _),cond_false];exact .done)
  ·simp only [qdF,qj hj,cond_true,qoY hj,ja,wS j]
   refine Ev.bind (qkZ (by rw [qnu hj];exact h.at hj)) ?_
   cases nameB (strAt xs j)
   ·exact .done
   ·refine Ev.ff rfl (Ev.bind (hL2 j hj) ?_)
    cases allN (neB xs j) j
    ·exact .done
    ·exact hX
 unfold qfF
 refine Ev.bind hL1 ?_
 cases namesB xs<;>exact .done
theorem qrV {xs:List ByteArray} {v:ByteArray} (hl:xs.length≤1048576):Ev (fun n=>qeD n xs v) (ixL (fun x=>decide (v=x)) xs) :=
 qft (fin:=(xs.length:Int)) (Lf:=qbE xs v) (pf:=fun _ x=>some (decide (v=x))) (fun _ _=>.done)
  (fun n=>by simp only [qbE,qk (jb _),cond_false])
  (fun n j x hx=>by
   have hj:=(List.getElem?_eq_some_iff.1 hx).1
   simp only [qbE,qj hj,cond_true,qaq hx,ja,qgR,wS j])
  (fun n=>by unfold qeD;congr 1;funext o;cases o<;>rfl)
theorem qpw {xs:List ByteArray} {v:ByteArray} (hl:xs.length≤1048576):Ev (fun n=>qdy n xs v) (xs.any fun x=>decide (v=x)):=by
 unfold qdy
 exact Ev.bind (qrV hl) (Ev.now (by rw [qmZ]))
theorem qiy {xs:List ByteArray} (h:okL okS xs):Ev (fun n=>qdA n xs) (namesB xs):=by
 have hl:=h.len
 have hL1:Ev (fun n=>qdE xs n 0) (bif namesB xs then .nxt (xs.length:Int) else .ret false):=by
  refine qdU ?_ (fun j hj X hX=>Ev.succ ?_)
  ·exact Ev.succ (by simp only [qdE,qk (jb _),cond_false];exact .done)
  ·have hs:subS xs 0 (j:Int)=some (xs.take j):=by
    unfold subS
    rw [if_pos ⟨by omega,by omega,by omega⟩]
    simp
   simp only [qdE,qj hj,cond_true,qoY hj,ja,hs,qod (show okS (strAt xs j) by rw [qnu hj];exact h.at hj),wS j]
   cases nameB (strAt xs j)
   ·exact .done
   ·refine Ev.ff rfl (Ev.bind (qpw (by simp;omega)) ?_)
    have:((xs.take j).any fun x=>decide (strAt xs j=x)) = !allN (neB xs j) j:=by
     rw [qr7 (d:=ByteArray.empty)]
     congr 1
     rw [jR,Nat.min_eq_left (by omega)]
     refine qg4 (fun i hi=>?_)
     unfold neB strAt
     congr 1
     have:(xs.take j).getD i ByteArray.empty=xs.getD i ByteArray.empty:=by simp [jy,hi]
     rw [this]
     exact decide_eq_decide.2 eq_comm
    rw [this]
    cases allN (neB xs j) j
    ·exact .done
    ·exact hX
 unfold qdA
 refine Ev.bind hL1 ?_
 cases namesB xs<;>exact .done
end Go.Fw


namespace Go.Fw
open Go
set_option maxRecDepth 100000
theorem qqf {n:Nat} {x lo hi:Int}:qgm n x lo hi=some (!inI x lo hi):=by simp only [qgm,qc9,ja]
theorem qe9 {xs:List Int} {lo hi:Int} (hl:xs.length≤1048576):Ev (fun n=>qbS n xs lo hi) (xs.all fun x=>inI x lo hi):=by
 have h1:Ev (fun n=>qaH n xs lo hi) (ixL (fun x=>!inI x lo hi) xs) :=
  qft (fin:=(xs.length:Int)) (Lf:=qV xs lo hi) (pf:=fun _ x=>some (!inI x lo hi)) (fun _ _=>.done)
   (fun n=>by simp only [qV,qk (jb _),cond_false])
   (fun n j x hx=>by
    have hj:=(List.getElem?_eq_some_iff.1 hx).1
    simp only [qV,qj hj,cond_true,qaq hx,ja,qqf,wS j])
   (fun n=>by unfold qaH;congr 1;funext o;cases o<;>rfl)
 unfold qbS qbe
 refine Ev.bind (Ev.bind h1 (Ev.now rfl)) (Ev.now ?_)
 rw [qmZ,qo8]
def stepB (xs:List Int) (j:Nat):Bool:=decide (j=0) || decide (at0 xs (j-1)<at0 xs j)
def incB (xs:List Int):Bool:=allN (stepB xs) xs.length
theorem qlA {xs:List Int} (hl:xs.length≤1048576):Ev (fun n=>qeu n xs) (incB xs):=by
 have hL:Ev (fun n=>qbb xs n 1) (bif incB xs then .nxt (max 1 xs.length:Int) else .ret false):=by
  by_cases h0:xs.length=0
  ·have hb:incB xs=true:=by unfold incB;rw [h0];rfl
   rw [hb]
   refine Ev.succ ?_
   have:decide ((1:Int)<(xs.length:Int))=false:=by rw [h0];decide
   simp only [qbb,this,cond_false]
   exact Ev.now (by rw [h0];rfl)
  ·have:=qta (Lf:=qbb xs) (len:=xs.length) (i0:=1) (f:=stepB xs) (bad:=false) (fin:=.nxt (max 1 xs.length:Int)) (by omega)
    (Ev.succ (by
     simp only [qbb,qk (jb _),cond_false]
     exact Ev.now (by congr 2;omega)))
    (fun j h1 hj X hX=>Ev.succ (by
     simp only [qbb,qj hj,cond_true,wS j,show (j:Int)-1=((j-1:Nat):Int) by omega,qax (show -9223372036854775808≤((j-1:Nat):Int) by omega) (by omega),qae (show j-1<xs.length by omega),qae hj,ja]
     unfold stepB
     by_cases hc:at0 xs (j-1)<at0 xs j
     ·have e1:decide (at0 xs (j-1) ≥ at0 xs j)=false:=by simp;omega
      rw [e1];simp only [hc,decide_true,Bool.or_true,cond_true,cond_false];exact hX
     ·have e1:decide (at0 xs (j-1) ≥ at0 xs j)=true:=by simp;omega
      have e2:decide (j=0)=false:=by simp;omega
      rw [e1,e2];simp only [hc,decide_false,Bool.or_self,cond_true,cond_false];exact .done))
   have e:allN (fun j=>stepB xs (1+j)) (xs.length-1)=incB xs:=by
    unfold incB
    rw [jh,qai,qai]
    constructor
    ·intro h j hj
     cases j with
     | zero=>rfl
     | succ j=>have:=h j (by omega);rwa [Nat.add_comm] at this
    ·intro h j hj
     exact h (1+j) (by omega)
   rw [e] at this
   exact this
 unfold qeu
 refine Ev.bind hL ?_
 cases incB xs<;>exact .done
def lenB {α:Type} (xs:List α) (lo hi:Nat):Bool:=decide (lo≤xs.length)&&decide (xs.length≤hi)
theorem qq0 {α:Type} {xs:List α} {lo hi:Nat}:inI (xs.length:Int) (lo:Int) (hi:Int)=lenB xs lo hi:=by
 unfold inI lenB;rw [jh];simp
def axisB (xs:List Int):Bool:=lenB xs 1 4&&((xs.all fun x=>inI x 0 100000)&&incB xs)
theorem qqC {xs:List Int} (hl:xs.length≤1048576):Ev (fun n=>qiC n xs) (axisB xs):=by
 simp only [qiC,qa7,ja,qc9,show inI (xs.length:Int) 1 4=lenB xs 1 4 from qq0 (lo:=1) (hi:=4)]
 unfold axisB
 cases lenB xs 1 4
 ·exact .done
 ·refine Ev.tt rfl (Ev.bind (qe9 hl) ?_)
  cases (xs.all fun x=>inI x 0 100000)
  ·exact .done
  ·exact Ev.tt rfl (Ev.bind (qlA hl) .done)
theorem qpB {xs:List Int} (hl:xs.length≤1048576):Ev (fun n=>qht n xs) (axisB xs):=by
 have hL:Ev (fun n=>qdk xs n 0) (bif allN (fun j=>inI (at0 xs j) 0 100000&&stepB xs j) xs.length then .nxt (xs.length:Int) else .ret false):=by
  refine qdU ?_ (fun j hj X hX=>Ev.succ ?_)
  ·exact Ev.succ (by simp only [qdk,qk (jb _),cond_false];exact .done)
  ·simp only [qdk,qj hj,cond_true,qae hj,ja,qcG,wS j]
   cases inI (at0 xs j) 0 100000
   ·exact .done
   ·simp only [jV,cond_false,jv]
    unfold stepB
    by_cases h0:j=0
    ·subst h0
     exact Ev.ff (by decide) hX
    ·simp only [show (j:Int)-1=((j-1:Nat):Int) by omega,qax (show -9223372036854775808≤((j-1:Nat):Int) by omega) (by omega),qae (show j-1<xs.length by omega),ja]
     have e2:decide (j=0)=false:=by simp;omega
     have e3:decide ((j:Int) > 0)=true:=by simp;omega
     rw [e2,e3]
     simp only [cond_true,Bool.false_or]
     by_cases hc:at0 xs (j-1)<at0 xs j
     ·have e1:decide (at0 xs (j-1) ≥ at0 xs j)=false:=by simp;omega
      rw [e1];simp only [hc,decide_true,cond_true,cond_false];exact hX
     ·have e1:decide (at0 xs (j-1) ≥ at0 xs j)=true:=by simp;omega
      rw [e1];simp only [hc,decide_false,cond_true,cond_false];exact .done
 have e:axisB xs=(allN (fun j=>inI (at0 xs j) 0 100000&&stepB xs j) xs.length&&lenB xs 1 4):=by
  unfold axisB incB
  rw [qkG,qf3 (d:=0),Bool.and_comm]
  rfl
 rw [e]
 unfold qht
 refine Ev.bind hL ?_
 cases allN (fun j=>inI (at0 xs j) 0 100000&&stepB xs j) xs.length
 ·exact .done
 ·simp only [cond_true,ql7,qnr,jv]
  exact Ev.now (by congr 1;unfold lenB;rw [jh];simp;omega)
def tableB (t:qv):Bool:=axisB t.Bl&&(axisB t.Bh&&(decide (t.Bf.length=t.Bl.length*t.Bh.length)&&(t.Bf.all fun x=>inI x (-1000000) 1000000)))
theorem qtd {a b:Nat} (ha:a≤1048576) (hb:b≤1048576):W64 ((a:Int)*(b:Int))=((a*b:Nat):Int):=by
 have h:a*b≤1048576*1048576:=Nat.mul_le_mul ha hb
 have e:(a:Int)*(b:Int)=((a*b:Nat):Int):=by simp
 rw [e]
 exact qax (by omega) (by omega)
theorem qsZ {t:qv} (h:qhF t):Ev (fun n=>qjg n t) (tableB t):=by
 unfold qjg tableB
 refine Ev.bind (qqC h.Bl.len) ?_
 cases axisB t.Bl
 ·exact .done
 ·refine Ev.tt rfl (Ev.bind (qqC h.Bh.len) ?_)
  cases axisB t.Bh
  ·exact .done
  ·rw [qtd h.Bl.len h.Bh.len]
   have e:(((t.Bf.length:Nat):Int)==((t.Bl.length*t.Bh.length:Nat):Int))=decide (t.Bf.length=t.Bl.length*t.Bh.length):=by rw [jh];simp;omega
   rw [e]
   cases decide (t.Bf.length=t.Bl.length*t.Bh.length)
   ·exact .done
   ·exact Ev.tt rfl (Ev.tt rfl (Ev.bind (qe9 h.Bf.len) .done))
theorem qrM {t:qv} (h:qhF t):Ev (fun n=>qi5 n t) (tableB t):=by
 have hl:=h.Bf.len
 have hL:Ev (fun n=>qeb t n 0) (bif (t.Bf.all fun x=>inI x (-1000000) 1000000) then .nxt (t.Bf.length:Int) else .ret false) :=
  qnc (fun n=>by simp only [qeb,qk (jb _),cond_false]) (fun j hj X hX=>by
   simp only [qeb,qj hj,cond_true,qhC hj,ja,qcG,wS j]
   cases inI t.Bf[j] (-1000000) 1000000
   ·exact .done
   ·exact hX)
 unfold qi5 tableB
 refine Ev.bind (b:=!(axisB t.Bl&&(axisB t.Bh&&decide (t.Bf.length=t.Bl.length*t.Bh.length)))) ?_ ?_
 ·refine Ev.bind (qpB h.Bl.len) ?_
  cases axisB t.Bl
  ·exact .done
  ·refine Ev.ff rfl (Ev.bind (qpB h.Bh.len) ?_)
   cases axisB t.Bh
   ·exact .done
   ·refine Ev.ff rfl (Ev.now ?_)
    rw [qtd h.Bl.len h.Bh.len]
    congr 1
    rw [jh];simp;omega
 ·cases axisB t.Bl
  ·exact .done
  ·cases axisB t.Bh
   ·exact .done
   ·cases decide (t.Bf.length=t.Bl.length*t.Bh.length)
    ·exact .done
    ·refine Ev.ff rfl (Ev.bind hL ?_)
     cases (t.Bf.all fun x=>inI x (-1000000) 1000000)<;>exact .done
end Go.Fw


namespace Go.Fw
open Go
set_option maxRecDepth 100000
instance:Inhabited qal:=⟨⟨ByteArray.empty,0,0,false⟩⟩
instance:Inhabited qv:=⟨⟨[],[],[]⟩⟩
instance:Inhabited qN:=⟨⟨0,0,0,0,[],[]⟩⟩
instance:Inhabited qz:=⟨⟨ByteArray.empty,0,[],[],[],0,0⟩⟩
instance:Inhabited qn:=⟨⟨ByteArray.empty,0,[]⟩⟩
instance:Inhabited qaf:=⟨⟨ByteArray.empty,0,0⟩⟩
instance:Inhabited qO:=⟨⟨[],[],[],[]⟩⟩
theorem lastE {j m:Nat} (h:j<m) (hm:m≤1048576):((j:Int)==W64 ((m:Int)-1))=decide (j+1=m):=by
 rcases qvP h with h|h
 ·exact h
 ·omega
theorem qjs {α:Type} [Inhabited α] {xs:List α} {g:α→ByteArray} {j:Nat} (h:j<xs.length):strAt (xs.map g) j=g (gt xs j):=by
 rw [qnu (by simpa using h),qeZ h];simp
theorem qmk {α:Type} {xs:List α} {g:α→ByteArray} {ok:α→Prop} (h:okL ok xs) (hg:∀ x,ok x→okS (g x)):okL okS (xs.map g) :=
 ⟨by rw [ju];exact h.1,fun y hy=>by
  obtain ⟨x,hx,rfl⟩:=List.mem_map.1 hy
  exact hg x (h.2 x hx)⟩
theorem qkQ {α β:Type} {xs:List α} {g:α→β} {j:Nat} (h:j<xs.length) (hl:xs.length≤1048576) {y:β}:appS ((xs.take j).map g) [y]=some ((xs.take j).map g++[y]) :=
 qcE (by simp;omega)
def pinB (ps:List qal) (j:Nat):Bool :=
 bif decide (j+1=ps.length) then ((gt ps j).Bv==2)&&(((gt ps j).Bt==0)&&!(gt ps j).Bp) else ((gt ps j).Bv==1)&&inI (gt ps j).Bt 0 500
def pinsB (ps:List qal):Bool:=allN (pinB ps) ps.length&&(lenB ps 2 5&&namesB (ps.map qal.Av))
def clkN (ps:List qal) (j:Nat):Nat:=cntP (fun i=>(gt ps i).Bp) j
theorem qsY {ps:List qal} (h:okL qmi ps):Ev (fun n=>qjk n ps) (pinsB ps):=by
 have hl:=h.len
 have hL:Ev (fun n=>qcz ps n ([]:List ByteArray) 0) (bif allN (pinB ps) ps.length then .nxt (ps.map qal.Av,(ps.length:Int)) else .ret false):=by
  refine loopN (Lf:=qcz ps) (S:=fun j=>(ps.take j).map qal.Av) (pinB ps) (fun n=>?_) (fun j hj hp X hX=>?_)
  ·simp only [qcz,qk (jb _),cond_false,jC]
  ·simp only [qcz,qj hj,cond_true,qA hj,ja,qkQ hj hl,qe8 (g:=qal.Av) hj,lastE hj hl,bne,qcH,qc9,wS j]
   generalize hc:pinB ps j=c at hX ⊢
   unfold pinB at hc
   cases hd:decide (j+1=ps.length)
   ·rw [hd] at hc
    simp only [cond_false] at hc ⊢
    subst hc
    exact Ev.okP (fun h1=>Ev.okP1 (fun h2=>hX (by rw [h1,h2];rfl)))
   ·rw [hd] at hc
    simp only [cond_true] at hc ⊢
    subst hc
    refine Ev.okP (fun h1=>Ev.okP (fun h2=>Ev.chkP1 (fun h3=>hX (by rw [h1,h2,h3];rfl))))
 unfold qjk pinsB
 refine Ev.bind hL ?_
 cases allN (pinB ps) ps.length
 ·exact .done
 ·simp only [cond_true,qb7,qc9,ja,show inI (ps.length:Int) 2 5=lenB ps 2 5 from qq0 (lo:=2) (hi:=5),jv]
  exact Ev.andP (fun _=>Ev.last (qiy (qmk h (fun x hx=>hx.Av))))
def pinS (ps:List qal) (j:Nat):Bool:=allN (neB (ps.map qal.Av) j) j&&((nameB (gt ps j).Av&&inI (gt ps j).Bt 0 500)&&(bif decide (j+1=ps.length) then ((gt ps j).Bv==2)&&(((gt ps j).Bt==0)&&!(gt ps j).Bp) else ((gt ps j).Bv==1)))
theorem qvF {ps:List qal}:(lenB ps 2 5&&allN (pinS ps) ps.length)=pinsB ps:=by
 have e:namesB (ps.map qal.Av)=allN (fun j=>nameB (gt ps j).Av&&allN (neB (ps.map qal.Av) j) j) ps.length:=by
  unfold namesB
  rw [ju]
  exact qg4 (fun j hj=>by rw [qjs hj])
 unfold pinsB
 rw [e,←Bool.and_assoc,Bool.and_comm (allN (pinB ps) ps.length),Bool.and_assoc,←qkG]
 congr 1
 refine qg4 (fun j hj=>?_)
 unfold pinS pinB
 cases hd:decide (j+1=ps.length)
 ·simp only [cond_false]
  cases allN (neB (ps.map qal.Av) j) j<;>cases nameB (gt ps j).Av<;>cases inI (gt ps j).Bt 0 500<;>cases ((gt ps j).Bv==1)<;>rfl
 ·simp only [cond_true]
  cases hcap:((gt ps j).Bt==0)
  ·simp
  ·have:inI (gt ps j).Bt 0 500=true:=by rw [beq_iff_eq] at hcap;rw [hcap];rfl
   rw [this]
   cases allN (neB (ps.map qal.Av) j) j<;>cases nameB (gt ps j).Av<;>cases ((gt ps j).Bv==2)<;>cases (gt ps j).Bp<;>rfl
theorem qsT {c:qz} (h:okL qmi c.Az):Ev (fun n=>qjd n c) (bif pinsB c.Az then (((clkN c.Az c.Az.length:Nat):Int),true) else (0,false)):=by
 have hl:=h.len
 have hL2:∀ j,j<c.Az.length→Ev (fun n=>qea c (j:Int) (gt c.Az j) n 0) (bif allN (neB (c.Az.map qal.Av) j) j then .nxt (j:Int) else .ret (0,false)):=by
  intro j hj
  refine qdU ?_ (fun i hi X hX=>Ev.succ ?_)
  ·exact Ev.succ (by simp only [qea,qk (jb _),cond_false];exact .done)
  ·simp only [qea,qj hi,cond_true,qA (show i<c.Az.length by omega),ja,qgR,wS i]
   unfold neB
   rw [qjs (g:=qal.Av) (show i<c.Az.length by omega),qjs (g:=qal.Av) hj]
   exact Ev.chkP1 (fun _=>hX)
 have hL1:Ev (fun n=>qcu c n 0 0) (bif allN (pinS c.Az) c.Az.length then .nxt (((clkN c.Az c.Az.length:Nat):Int),(c.Az.length:Int)) else .ret (0,false)):=by
  refine loopN (Lf:=qcu c) (S:=fun j=>((clkN c.Az j:Nat):Int)) (pinS c.Az) (fun n=>?_) (fun j hj hp X hX=>?_)
  ·simp only [qcu,qk (jb _),cond_false]
  ·have hn:clkN c.Az j≤j:=qe1
   have ejl:((j:Int)==W64 ((c.Az.length:Int)-1))=decide (j+1=c.Az.length):=lastE hj hl
   have elt:decide ((j:Int)<W64 ((c.Az.length:Int)-1)) = !decide (j+1=c.Az.length):=by
    rw [qax (by omega) (by omega),jh];simp;omega
   simp only [qcu,qj hj,cond_true,qA hj,ja,wS j,qhz (show clkN c.Az j<9223372036854775807 by omega),ejl,elt,qcG]
   unfold pinS
   refine Ev.bind (hL2 j hj) ?_
   cases ha:allN (neB (c.Az.map qal.Av) j) j
   ·exact .done
   ·simp only [cond_true,jv]
    refine Ev.chkT ?_ (fun h1=>?_)
    ·exact Ev.or (qkZ (qlO h hj).Av) (fun _=>.done)
    ·refine Ev.chkT1 ?_ (fun h2=>?_)
     ·cases decide (j+1=c.Az.length)
      ·exact .done
      ·simp only [cond_true,jV,cond_false,bne,qcH]
       cases ((gt c.Az j).Bv==2)<;>cases ((gt c.Az j).Bt==0)<;>cases (gt c.Az j).Bp<;>exact .done
     ·have hX:=hX (by unfold pinS;rw [ha,h1,h2];rfl)
      have hck:clkN c.Az (j+1)=clkN c.Az j+(bif (gt c.Az j).Bp then 1 else 0):=rfl
      rw [hck] at hX
      cases hc:(gt c.Az j).Bp
      ·rw [hc] at hX;exact Ev.ff rfl hX
      ·rw [hc] at hX;exact Ev.tt rfl hX
 rw [←qvF]
 unfold qjd
 refine Ev.guard ?_ (fun h1=>?_)
 ·unfold lenB
  have e1:decide ((c.Az.length:Int)<2) = !decide (2≤c.Az.length):=by rw [jh];simp;omega
  have e2:decide ((c.Az.length:Int) > 5) = !decide (c.Az.length≤5):=by rw [jh];simp;omega
  rw [e1,e2]
  cases decide (2≤c.Az.length)<;>cases decide (c.Az.length≤5)<;>exact .done
 ·refine Ev.bind hL1 ?_
  cases allN (pinS c.Az) c.Az.length<;>exact .done
def mnL (xs:List Int):Int:=(xs.drop 1).foldl (fun m y=>if y<m then y else m) (at0 xs 0)
def mxL (xs:List Int):Int:=(xs.drop 1).foldl (fun m y=>if y > m then y else m) (at0 xs 0)
theorem qpF {t:qv} (h:tableB t=true):1≤t.Bf.length:=by
 unfold tableB axisB lenB at h
 simp only [jc,decide_eq_true_eq] at h
 obtain ⟨⟨⟨h1,_⟩,_⟩,⟨⟨h2,_⟩,_⟩,h3,_⟩:=h
 rw [h3]
 exact Nat.mul_pos h1 h2
theorem qv5 {xs:List Int} (h1:1≤xs.length) (hl:xs.length≤1048576):Ev (fun n=>qgs n xs) (mnL xs):=by
 have hL:=(qn9 (Lf:=fun n t j=>qcq xs n t j) (xs:=xs) (step:=fun (m y:Int)=>if y<m then y else m) (fin:=fun t=>(t,(xs.length:Int))) 1 (at0 xs 0) (fun _ _=>True) h1 trivial (fun _ _ _ _=>trivial)
  (fun n t=>by simp only [qcq,qk (jb _),cond_false])
  (fun j t hj _ X hX=>by simpa only [qcq,qj hj,cond_true,qhC hj,ja,wS j] using hX)).1
 unfold qgs
 rw [show decide ((xs.length:Int)<1)=false by simp;omega,show idx xs (0:Int)=some (at0 xs 0) from qae (j:=0) (by omega)]
 simp only [cond_false,ja]
 exact Ev.bind hL .done
theorem qsE {t:qv} (h:qhF t):Ev (fun n=>qgl n t) (bif tableB t then (⟨mnL t.Bf,mxL t.Bf⟩,0) else (⟨0,0⟩,1)):=by
 unfold qgl
 refine Ev.chk1 (qrM h) (fun hb=>?_)
 have h1:=qpF hb
 have hl:=h.Bf.len
 have hL:=(qn9 (Lf:=fun n (t':Int × Int) j=>qcp t n t'.1 t'.2 j) (xs:=t.Bf) (step:=fun (m:Int × Int) y=>(if y<m.1 then y else m.1,if y > m.2 then y else m.2)) (fin:=fun t'=>(t'.1,t'.2,(t.Bf.length:Int))) 1 (at0 t.Bf 0,at0 t.Bf 0) (fun _ _=>True) h1 trivial (fun _ _ _ _=>trivial)
  (fun n t=>by simp only [qcp,qk (jb _),cond_false])
  (fun j t hj _ X hX=>by simpa only [qcp,qj hj,cond_true,qhC hj,ja,wS j] using hX)).1
 have hf:∀ (ys:List Int) (a b:Int),ys.foldl (fun (m:Int × Int) y=>(if y<m.1 then y else m.1,if y > m.2 then y else m.2)) (a,b)=(ys.foldl (fun m y=>if y<m then y else m) a,ys.foldl (fun m y=>if y > m then y else m) b):=by
  intro ys
  induction ys with
  | nil=>intro a b;rfl
  | cons y ys ih=>intro a b;simp only [List.foldl_cons,ih]
 rw [hf] at hL
 rw [show idx t.Bf (0:Int)=some (at0 t.Bf 0) from qae (j:=0) (by omega)]
 simp only [ja]
 exact Ev.bind hL .done
def tabB (pos:Bool) (t:qv):Bool:=tableB t&&(!pos || decide (0≤mnL t.Bf))
def tablesB (ts:List qv) (pos:Bool):Bool:=decide (ts.length=2)&&ts.all (tabB pos)
theorem qlg {ts:List qv} {pos:Bool} (h:okL qhF ts):Ev (fun n=>qeJ n ts pos) (tablesB ts pos):=by
 have hl:=h.len
 have h1:Ev (fun n=>qau n ts pos) (ixL (fun x=>!tabB pos x) ts) :=
  qft (fin:=(ts.length:Int)) (Lf:=qK ts pos) (pf:=fun n x=>qgr n x pos) (fun x hx=>by
    unfold qgr tabB
    refine Ev.or (qsZ (h.2 x hx)) (fun hb=>?_)
    cases pos
    ·exact .done
    ·refine Ev.tt rfl (Ev.bind (qv5 (qpF hb) (h.2 x hx).Bf.len) (Ev.now ?_))
     congr 1
     rw [jh];simp)
   (fun n=>by simp only [qK,qk (jb _),cond_false])
   (fun n j x hx=>by
    have hj:=(List.getElem?_eq_some_iff.1 hx).1
    simp only [qK,qj hj,cond_true,qaq hx,ja,wS j])
   (fun n=>by unfold qau;congr 1;funext o;cases o<;>rfl)
 unfold qeJ qaP tablesB
 rw [show ((ts.length:Int)==2)=decide (ts.length=2) by rw [jh];simp;omega]
 refine Ev.andP (fun _=>Ev.bind (Ev.bind h1 (Ev.now rfl)) (Ev.now ?_))
 rw [qmZ,qo8]
theorem qhl {ts:List qv} {pos:Bool} (h:okL qhF ts):Ev (fun n=>qc1 n ts pos) (tablesB ts pos):=by
 unfold qc1 tablesB
 rw [show ((ts.length:Int) != 2) = !decide (ts.length=2) by rw [jh];simp;omega]
 simp only [qcH]
 refine Ev.andP (fun h2=>?_)
 have h2:ts.length=2:=by simpa using h2
 have hL:Ev (fun n=>qce ts pos n 0) (bif allN (fun j=>tabB pos (gt ts j)) ts.length then .nxt (2:Int) else .ret false):=by
  refine qdU (len:=ts.length) ?_ (fun j hj X hX=>Ev.succ ?_)
  ·rw [h2];exact Ev.succ (by simp only [qce];exact .done)
  ·simp only [qce,show decide ((j:Int)<2)=true by simp;omega,cond_true,qA hj,ja,wS j]
   refine Ev.bind (qsE (qlO h hj)) ?_
   unfold tabB
   cases tableB (gt ts j)
   ·exact .done
   ·simp only [cond_true,jv]
    refine Ev.ff rfl ?_
    cases pos
    ·exact hX
    ·refine Ev.tt rfl ?_
     rw [show decide (mnL (gt ts j).Bf<0) = !decide (0≤mnL (gt ts j).Bf) by rw [jh];simp]
     simp only [qcH]
     exact Ev.okP1 (fun _=>hX)
 rw [qhk]
 refine Ev.bind hL ?_
 cases allN (fun j=>tabB pos (gt ts j)) ts.length<;>exact .done
end Go.Fw


namespace Go.Fw
open Go
set_option maxRecDepth 100000
theorem qeR {α:Type} [Inhabited α] {xs:List α} {x:Int} (h0:0≤x) (h1:x<xs.length):idx xs x=some (gt xs x.toNat):=by
  have:=qA (xs:=xs) (j:=x.toNat) (by omega)
  rwa [←qgc h0] at this
theorem qqJ {q:Nat→Bool} {m n:Nat} (h:m≤n):cntP q m≤cntP q n:=by
  induction n with
  | zero =>
    obtain rfl:m=0:=by omega
    exact jb _
  | succ n ih =>
    rcases Nat.lt_or_eq_of_le h with h|rfl
    · exact Nat.le_trans (ih (by omega)) (Nat.le_add_right _ _)
    · exact jb _
theorem qmv {m k:Nat}:decide ((m:Int)≤(k:Int))=decide (m≤k):=by rw [jh];simp
theorem qrH {q:Nat→Bool} {n i j:Nat} (hi:i<j) (hj:j<n) (h1:q i=true) (h2:q j=true):2≤cntP q n:=by
  have e1:cntP q (i+1)=cntP q i+1:=by rw [cntP,h1];rfl
  have e2:cntP q (j+1)=cntP q j+1:=by rw [cntP,h2];rfl
  have m1:=qqJ (q:=q) (show i+1≤j by omega)
  have m2:=qqJ (q:=q) (show j+1≤n by omega)
  omega
theorem qsb {q:Nat→Bool} {n i j:Nat} (hn:cntP q n≤1) (hi:i<n) (hj:j<n) (h1:q i=true) (h2:q j=true):i=j:=by
  rcases Nat.lt_trichotomy i j with h|h|h
  · have:=qrH h hj h1 h2;omega
  · exact h
  · have:=qrH h hi h2 h1;omega
def clkIx (ps:List qal):Int:=ixL (fun p=>p.Bp) ps
def clkAt (ps:List qal) (x:Int):Bool:=(gt ps x.toNat).Bp
theorem quU {c:qz} (hl:c.Az.length≤1048576):Ev (fun n=>qgT n c) (clkIx c.Az):=by
  unfold qgT
  refine Ev.bind (b:=clkIx c.Az) ?_ .done
  exact qft (fin:=(c.Az.length:Int)) (Lf:=qP c.Az) (pf:=fun n x=>qhJ n x) (fun _ _=>.done)
    (fun n=>by simp only [qP,qk (jb _),cond_false])
    (fun n j x hx=>by
      have hj:=(List.getElem?_eq_some_iff.1 hx).1
      simp only [qP,qj hj,cond_true,qaq hx,ja,wS j])
    (fun n=>by unfold qa9;congr 1;funext o;cases o<;>rfl)
def arcI (ps:List qal) (a:qN):Bool :=
  bif (a.Ba==4) || (a.Ba==5) then
    (a.Bn==0)&&(((a.Bc.length:Int)==0)&&(tablesB a.Bq false&&((a.Bi==clkIx ps)&&(decide (a.Bi ≥ 0)&&(inI a.To 0 (ps.length-2)&&!(a.To==a.Bi))))))
  else
    (tablesB a.Bq true&&(tablesB a.Bc true&&((a.To==(ps.length:Int)-1)&&inI a.Bi 0 (ps.length-2)))) &&
      (bif a.Ba==1 then !clkAt ps a.Bi&&inI a.Bn 1 3 else (bif (a.Ba==2) || (a.Ba==3) then clkAt ps a.Bi&&(a.Bn==0) else false))
def arcS (ps:List qal) (a:qN):Bool :=
  (inI a.Bi 0 (ps.length-2)&&inI a.To 0 (ps.length-1)) &&
    (bif a.Ba==1 then !clkAt ps a.Bi&&((a.To==(ps.length:Int)-1)&&(inI a.Bn 1 3&&(tablesB a.Bq true&&tablesB a.Bc true)))
     else (bif (a.Ba==2) || (a.Ba==3) then clkAt ps a.Bi&&((a.To==(ps.length:Int)-1)&&((a.Bn==0)&&(tablesB a.Bq true&&tablesB a.Bc true)))
     else (bif (a.Ba==4) || (a.Ba==5) then clkAt ps a.Bi&&(decide (a.To<(ps.length:Int)-1)&&(!clkAt ps a.To&&((a.Bn==0)&&(tablesB a.Bq false&&((a.Bc.length:Int)==0))))) else false)))
theorem qoj {c d:Bool}:(bif c then some c else some d)=some (c || d):=by cases c<;>rfl
theorem qrz {c d:Bool}:(bif c then some true else some d)=some (c || d):=by cases c<;>rfl
theorem qsW {n:Nat} {k:Int}:qi3 n k=some ((k==4) || (k==5)):=by simp only [qi3,qrz]
theorem quL {c:qz} {a:qN} (h:okL qmi c.Az) (ha:qmQ a) (hm:2≤c.Az.length):Ev (fun n=>qgW n c a) (arcI c.Az a):=by
  have hl:=h.len
  have e1:W64 ((c.Az.length:Int)-1)=(c.Az.length:Int)-1:=qee (by omega)
  have e2:W64 ((c.Az.length:Int)-1-1)=(c.Az.length:Int)-2:=by rw [qax (by omega) (by omega)];omega
  simp only [qgW,qsW,ja,qfP,qdG,qb7,e1,e2,qc9,qoj,bne]
  unfold arcI
  refine Ev.iff (fun _=>Ev.last ?_) (fun _=>Ev.guardB ?_ (fun hb=>?_))
  · exact Ev.andP fun _=>Ev.andP fun _=>Ev.and (qlg ha.Bq) fun _=>Ev.bind (quU hl) (Ev.andP fun _=>Ev.andP fun _=>Ev.andP fun _=>.done)
  · refine Ev.or (qlg ha.Bq) fun _=>Ev.or (qlg ha.Bc) fun _=>?_
    simp only [qcH]
    exact Ev.orBP fun _=>.done
  · have hf:0≤a.Bi∧a.Bi≤(c.Az.length:Int)-2:=by
      simp only [jc,qa6] at hb
      exact hb.2.2.2
    simp only [qeR hf.1 (show a.Bi<(c.Az.length:Int) by omega),ja]
    exact Ev.iff (fun _=>Ev.andP fun _=>.done) (fun _=>Ev.iff (fun _=>Ev.andP fun _=>.done) (fun _=>.done))
theorem qtC {c:qz} {a:qN} (h:okL qmi c.Az) (ha:qmQ a) (hm:2≤c.Az.length):Ev (fun n=>qkd n c a) (arcS c.Az a):=by
  have hl:=h.len
  have e1:W64 ((c.Az.length:Int)-1)=(c.Az.length:Int)-1:=qee (by omega)
  have e2:W64 ((c.Az.length:Int)-1-1)=(c.Az.length:Int)-2:=by rw [qax (by omega) (by omega)];omega
  simp only [qkd,ja,e1,e2,qcG,qoj]
  unfold arcS
  refine Ev.guardB ?_ (fun hb=>?_)
  · simp only [qcH]
    exact Ev.orBP fun _=>.done
  · have hf:(0≤a.Bi∧a.Bi≤(c.Az.length:Int)-2)∧(0≤a.To∧a.To≤(c.Az.length:Int)-1):=by
      simp only [jc,qa6] at hb
      exact hb
    simp only [qeR hf.1.1 (show a.Bi<(c.Az.length:Int) by omega),qeR hf.2.1 (show a.To<(c.Az.length:Int) by omega),ja]
    refine Ev.iff (fun _=>?_) (fun _=>Ev.iff (fun _=>?_) (fun _=>Ev.iff (fun _=>?_) (fun _=>.done)))
    · exact Ev.andP fun _=>Ev.andP fun _=>Ev.andP fun _=>Ev.and (qhl ha.Bq) fun _=>Ev.last (qhl ha.Bc)
    · exact Ev.andP fun _=>Ev.andP fun _=>Ev.andP fun _=>Ev.and (qhl ha.Bq) fun _=>Ev.last (qhl ha.Bc)
    · exact Ev.andP fun _=>Ev.andP fun _=>Ev.andP fun _=>Ev.andP fun _=>Ev.and (qhl ha.Bq) fun _=>.done
theorem qnG {ps:List qal} (h1:clkN ps ps.length≤1) {x:Int} (hx:0≤x):clkIx ps=x↔x<ps.length∧clkAt ps x=true:=by
  unfold clkIx ixL
  cases hf:ps.findIdx? (fun p=>p.Bp) with
  | some j =>
    obtain ⟨hj,hp,_⟩:=List.findIdx?_eq_some_iff_getElem.1 hf
    have hpj:(gt ps j).Bp=true:=by rw [qeZ hj];exact hp
    constructor
    · intro e
      have e:(j:Int)=x:=e
      subst e
      exact ⟨by omega,by unfold clkAt;rw [jo];exact hpj⟩
    · rintro ⟨hl,hc⟩
      have:=qsb h1 hj (show x.toNat<ps.length by omega) hpj hc
      show (j:Int)=x
      omega
  | none =>
    have hn:=List.findIdx?_eq_none_iff.1 hf
    constructor
    · intro e
      have e:(-1:Int)=x:=e
      omega
    · rintro ⟨hl,hc⟩
      have hxl:x.toNat<ps.length:=by omega
      unfold clkAt at hc
      rw [qeZ hxl] at hc
      have:=hn _ (jp hxl)
      rw [hc] at this
      exact absurd this (by decide)
theorem qf1 {ps:List qal} (h:pinsB ps=true):(2≤ps.length∧ps.length≤5)∧clkAt ps ((ps.length:Int)-1)=false:=by
  unfold pinsB lenB at h
  simp only [jc,decide_eq_true_eq] at h
  refine ⟨h.2.1,?_⟩
  have h1:=qai.1 h.1 (ps.length-1) (by omega)
  unfold pinB at h1
  rw [show decide (ps.length-1+1=ps.length)=true by simp;omega] at h1
  simp only [cond_true,jc,jD] at h1
  unfold clkAt
  rw [show ((ps.length:Int)-1).toNat=ps.length-1 by omega]
  exact h1.2.2
theorem qvn {ps:List qal} {a:qN} (h:pinsB ps=true) (h1:clkN ps ps.length≤1):arcI ps a=arcS ps a:=by
  obtain ⟨⟨hm,hm5⟩,hlast⟩:=qf1 h
  rw [jh]
  unfold arcI arcS
  cases h45:((a.Ba==4) || (a.Ba==5)) with
  | true =>
    have k1:(a.Ba==1)=false:=by simp at h45 ⊢;omega
    have k23:((a.Ba==2) || (a.Ba==3))=false:=by simp at h45 ⊢;omega
    rw [k1,k23]
    simp only [cond_true,cond_false,jc,qa6,decide_eq_true_eq,beq_iff_eq,jD,beq_eq_false_iff_ne,ne_eq]
    constructor
    · rintro ⟨hs,hsl,hd,hf,hf0,ht,hne⟩
      obtain ⟨hl,hc⟩:=(qnG h1 hf0).1 hf.symm
      have hfl:a.Bi ≠ (ps.length:Int)-1:=by intro e;rw [e,hlast] at hc;cases hc
      refine ⟨⟨⟨hf0,by omega⟩,⟨ht.1,by omega⟩⟩,hc,by omega,?_,hs,hd,hsl⟩
      cases hct:clkAt ps a.To with
      | false=>rfl
      | true =>
        have:=(qnG h1 ht.1).2 ⟨by omega,hct⟩
        omega
    · rintro ⟨⟨hf,ht⟩,hc,hlt,hct,hs,hd,hsl⟩
      have:=(qnG h1 hf.1).2 ⟨by omega,hc⟩
      refine ⟨hs,hsl,hd,this.symm,hf.1,⟨ht.1,by omega⟩,?_⟩
      intro e
      rw [e,hc] at hct
      cases hct
  | false =>
    simp only [cond_false,jc,qa6,beq_iff_eq]
    cases (a.Ba==1)
    · cases ((a.Ba==2) || (a.Ba==3))
      · simp
      · simp only [cond_true,cond_false,jc,beq_iff_eq]
        constructor
        · rintro ⟨⟨h1,h2,h3,h4⟩,h5,h6⟩
          exact ⟨⟨h4,by omega⟩,h5,h3,h6,h1,h2⟩
        · rintro ⟨⟨h4,h7⟩,h5,h3,h6,h1,h2⟩
          exact ⟨⟨h1,h2,h3,h4⟩,h5,h6⟩
    · simp only [cond_true,jc,qa6,jD,beq_iff_eq]
      constructor
      · rintro ⟨⟨h1,h2,h3,h4⟩,h5,h6⟩
        exact ⟨⟨h4,by omega⟩,h5,h3,h6,h1,h2⟩
      · rintro ⟨⟨h4,h7⟩,h5,h3,h6,h1,h2⟩
        exact ⟨⟨h1,h2,h3,h4⟩,h5,h6⟩
theorem qqK {ps:List qal} {a:qN} (h:arcS ps a=true):1≤a.Ba∧a.Ba≤5:=by
  unfold arcS at h
  rw [jc] at h
  have h:=h.2
  cases h1:(a.Ba==1)
  · cases h2:((a.Ba==2) || (a.Ba==3))
    · cases h4:((a.Ba==4) || (a.Ba==5))
      · rw [h1,h2,h4] at h;cases h
      · simp at h4;omega
    · simp at h2;omega
  · simp at h1;omega
def sameArc (x y:qN):Bool:=(x.Ba==y.Ba)&&((x.Bi==y.Bi)&&(x.To==y.To))
def newArc (ar:List qN) (j:Nat):Bool:=allN (fun i=>!sameArc (gt ar i) (gt ar j)) j
theorem qsp {c:qz} (h:okL qmi c.Az) (ha:okL qmQ c.Am) (hm:2≤c.Az.length):Ev (fun n=>qfN n c) (allN (fun j=>arcI c.Az (gt c.Am j)&&newArc c.Am j) c.Am.length&&decide (c.Am.length≤8)):=by
  have hl:=ha.len
  have h1:∀ (ar:List qN) (y:qN),ar.length≤1048576→Ev (fun n=>qam n ar y) (ar.any fun x=>sameArc x y):=by
    intro ar y hl
    unfold qam
    refine Ev.bind (b:=ixL (fun x=>sameArc x y) ar) (qft (fin:=(ar.length:Int)) (Lf:=qI ar y) (pf:=fun n x=>qeC n x y) (fun x _=>?_)
      (fun n=>by simp only [qI,qk (jb _),cond_false])
      (fun n j x hx=>by
        have hj:=(List.getElem?_eq_some_iff.1 hx).1
        simp only [qI,qj hj,cond_true,qaq hx,ja,wS j])
      (fun n=>by unfold qaS;congr 1;funext o;cases o<;>rfl)) (Ev.now (by rw [qmZ]))
    unfold qeC sameArc
    exact Ev.andP fun _=>Ev.andP fun _=>.done
  have hL:Ev (fun n=>qb8 c n 0) (bif allN (fun j=>arcI c.Az (gt c.Am j)&&newArc c.Am j) c.Am.length then .nxt (c.Am.length:Int) else .ret false):=by
    refine qdU ?_ (fun j hj X hX=>Ev.succ ?_)
    · exact Ev.succ (by simp only [qb8,qk (jb _),cond_false];exact .done)
    · simp only [qb8,qj hj,cond_true,qA hj,ja,qt8 (Nat.le_of_lt hj),wS j]
      refine Ev.chk (quL h (qlO ha hj) hm) fun _=>Ev.chkT1 ?_ (fun _=>hX)
      refine (h1 _ _ (by simp;omega)).cast ?_
      rw [qu7 (Nat.le_of_lt hj)];rfl
  unfold qfN
  refine Ev.bind hL ?_
  cases allN (fun j=>arcI c.Az (gt c.Am j)&&newArc c.Am j) c.Am.length
  · exact .done
  · refine Ev.now ?_
    show some (decide ((c.Am.length:Int)≤((8:Nat):Int)))=some (true&&decide (c.Am.length≤8))
    rw [qmv,jv]
def hasB (ar:List qN) (k:Int):Bool:=ar.any fun a=>a.Ba==k
theorem qnX {c:qz} {k:Int} (hl:c.Am.length≤1048576):Ev (fun n=>qcU n c k) (hasB c.Am k):=by
  unfold qcU qaW
  exact Ev.last (Ev.bind (b:=ixL (fun x=>x.Ba==k) c.Am) (qft (fin:=(c.Am.length:Int)) (Lf:=qS c.Am k) (pf:=fun n x=>qiV n x k) (fun x _=>.done)
      (fun n=>by simp only [qS,qk (jb _),cond_false])
      (fun n j x hx=>by
        have hj:=(List.getElem?_eq_some_iff.1 hx).1
        simp only [qS,qj hj,cond_true,qaq hx,ja,wS j])
      (fun n=>by unfold qbg;congr 1;funext o;cases o<;>rfl)) (Ev.now (by rw [qmZ];rfl)))
def kindN (ar:List qN) (k:Nat) (j:Nat):Nat:=cntP (fun i=>(gt ar i).Ba==(k:Int)) j
theorem qqn {ar:List qN} {k:Nat}:decide (((kindN ar k ar.length:Nat):Int) > 0)=hasB ar k:=by
  rw [show decide (((kindN ar k ar.length:Nat):Int) > 0)=decide (0<kindN ar k ar.length) by simp]
  unfold kindN hasB
  rw [qrG,qsS]
theorem qs0 {ar:List qN} {k:Nat}:(((kindN ar k ar.length:Nat):Int)==0) = !hasB ar k:=by
  rw [←qqn,jh];simp
theorem qrR {c:qz} (ha:okL qmQ c.Am) (hk:∀ j,j<c.Am.length→1≤(gt c.Am j).Ba∧(gt c.Am j).Ba≤5):Ev (fun n=>qii n c) (vecC (fun k=>kindN c.Am k c.Am.length) 6):=by
  have hl:=ha.len
  have hL:Ev (fun n=>qcM c n (vecC (fun _=>0) 6) 0) (vecC (fun k=>kindN c.Am k c.Am.length) 6,(c.Am.length:Int)):=by
    refine loopF (Lf:=qcM c) (S:=fun j=>vecC (fun k=>kindN c.Am k j) 6) (len:=c.Am.length) (fun n=>?_) (fun j hj X hX=>?_)
    · simp only [qcM,qk (jb _),cond_false]
    · obtain ⟨k1,k5⟩:=hk j hj
      have ek:(gt c.Am j).Ba=(((gt c.Am j).Ba.toNat:Nat):Int):=qgc (by omega)
      have hc:kindN c.Am (gt c.Am j).Ba.toNat j≤j:=qe1
      simp only [qcM,qj hj,cond_true,qA hj,ja,wS j]
      rw [ek,qjR (show (gt c.Am j).Ba.toNat<6 by omega)]
      simp only [ja]
      rw [qqM (c:=fun k=>kindN c.Am k j) (by show kindN c.Am _ j<_;omega)]
      have:vecC (fun i=>kindN c.Am i j+(bif decide ((gt c.Am j).Ba.toNat=i) then 1 else 0)) 6=vecC (fun k=>kindN c.Am k (j+1)) 6:=by
        refine qjG (fun k _=>?_)
        show _=kindN c.Am k j+(bif (gt c.Am j).Ba==(k:Int) then 1 else 0)
        congr 2
        rw [jh];simp;omega
      rw [this]
      exact hX
  unfold qii
  rw [show mkS 6 (0:Int)=some (vecC (fun _=>0) 6) from qmo (m:=6) (by omega)]
  simp only [ja]
  exact Ev.bind hL .done
def kindB (c:qz):Bool :=
  bif c.Ba==1 then (((clkN c.Az c.Az.length:Nat):Int)==0)&&(((c.Br.length:Int)==((2 ^ (c.Az.length-1):Nat):Int))&&(c.Br.all fun x=>inI x 0 1))
  else bif c.Ba==2 then (((clkN c.Az c.Az.length:Nat):Int)==1)&&(((c.Br.length:Int)==0)&&(!hasB c.Am 1&&!(hasB c.Am 2==hasB c.Am 3)))
  else bif c.Ba==3 then (((clkN c.Az c.Az.length:Nat):Int)==1)&&(((c.Br.length:Int)==0)&&(hasB c.Am 1&&(hasB c.Am 2&&!hasB c.Am 3)))
  else false
theorem qqi {c:qz} (h:kindB c=true):clkN c.Az c.Az.length≤1:=by
  unfold kindB at h
  cases h1:(c.Ba==1)
  · cases h2:(c.Ba==2)
    · cases h3:(c.Ba==3)
      · rw [h1,h2,h3] at h;cases h
      · rw [h1,h2,h3] at h
        simp only [cond_true,cond_false,jc,beq_iff_eq] at h
        omega
    · rw [h1,h2] at h
      simp only [cond_true,cond_false,jc,beq_iff_eq] at h
      omega
  · rw [h1] at h
    simp only [cond_true,jc,beq_iff_eq] at h
    omega
theorem qr0 {m:Nat} (h1:2≤m) (h2:m≤5):shlS 1 (W64 ((m:Int)-1))=some ((2 ^ (m-1):Nat):Int)∧shlS 1 (IntKind.wrap .u64 (W64 ((m:Int)-1)))=some ((2 ^ (m-1):Nat):Int):=by
  have:m=2∨m=3∨m=4∨m=5:=by omega
  rcases this with rfl|rfl|rfl|rfl<;>exact ⟨by decide,by decide⟩
theorem qrS {c:qz} (hc:qmw c) (hm:2≤c.Az.length) (hm5:c.Az.length≤5):Ev (fun n=>qe5 n c) (kindB c):=by
  have hl:=hc.Az.len
  have hL:Ev (fun n=>qaT c n 0 0) (((clkN c.Az c.Az.length:Nat):Int),(c.Az.length:Int)):=by
    refine loopF (Lf:=qaT c) (S:=fun j=>((clkN c.Az j:Nat):Int)) (len:=c.Az.length) (fun n=>?_) (fun j hj X hX=>?_)
    · simp only [qaT,qk (jb _),cond_false]
    · have hn:clkN c.Az j≤j:=qe1
      simp only [qaT,qj hj,cond_true,qA hj,ja,wS j,qhz (show clkN c.Az j<9223372036854775807 by omega)]
      have hck:clkN c.Az (j+1)=clkN c.Az j+(bif (gt c.Az j).Bp then 1 else 0):=rfl
      rw [hck] at hX
      cases hc:(gt c.Az j).Bp
      · rw [hc] at hX;exact Ev.ff rfl hX
      · rw [hc] at hX;exact Ev.tt rfl hX
  unfold qe5 kindB
  refine Ev.bind hL ?_
  simp only [qdG,qb7,ja,(qr0 hm hm5).1]
  have hal:=hc.Am.len
  refine Ev.iff (fun _=>?_) (fun _=>Ev.iff (fun _=>?_) (fun _=>Ev.iff (fun _=>?_) (fun _=>.done)))
  · exact Ev.andP fun _=>Ev.andP fun _=>Ev.last (qe9 hc.Br.len)
  · exact Ev.andP fun _=>Ev.andP fun _=>Ev.bind (qnX hal) (Ev.andP fun _=>Ev.bind (qnX hal) (Ev.bind (qnX hal) .done))
  · exact Ev.andP fun _=>Ev.andP fun _=>Ev.and (qnX hal) fun _=>Ev.and (qnX hal) fun _=>Ev.bind (qnX hal) .done
def cellB (c:qz):Bool :=
  nameB c.Av&&(pinsB c.Az&&((allN (fun j=>arcI c.Az (gt c.Am j)&&newArc c.Am j) c.Am.length&&decide (c.Am.length≤8))&&(inI c.Ca 0 100000&&(inI c.Bu 0 100000&&kindB c))))
theorem qtn {c:qz} (hc:qmw c):Ev (fun n=>qkq n c) (cellB c):=by
  simp only [qkq,qod hc.Av,qc9,ja]
  unfold cellB
  refine Ev.andP fun _=>Ev.and (qsY hc.Az) fun hp=>?_
  obtain ⟨⟨hm,hm5⟩,_⟩:=qf1 hp
  exact Ev.and (qsp hc.Az hc.Am hm) fun _=>Ev.andP fun _=>Ev.andP fun _=>Ev.last (qrS hc hm hm5)
theorem qsA {c:qz} (hc:qmw c):Ev (fun n=>qkc n c) (cellB c):=by
  have hal:=hc.Am.len
  have htl:=hc.Br.len
  have e:cellB c=((pinsB c.Az&&(nameB c.Av&&(decide (c.Am.length≤8)&&(inI c.Ca 0 100000&&inI c.Bu 0 100000))))&&(allN (fun j=>arcS c.Az (gt c.Am j)&&newArc c.Am j) c.Am.length&&kindB c)):=by
    unfold cellB
    cases hk:kindB c
    · simp
    · cases hp:pinsB c.Az
      · simp
      · rw [qg4 (fun j _=>by rw [qvn hp (qqi hk)])]
        cases nameB c.Av<;>cases allN (fun j=>arcS c.Az (gt c.Am j)&&newArc c.Am j) c.Am.length<;>cases decide (c.Am.length≤8)<;>cases inI c.Ca 0 100000<;>cases inI c.Bu 0 100000<;>rfl
  rw [e]
  unfold qkc
  refine Ev.bind (qsT hc.Az) ?_
  cases hp:pinsB c.Az
  · exact .done
  · obtain ⟨⟨hm,hm5⟩,_⟩:=qf1 hp
    simp only [cond_true,jv,jV,cond_false]
    refine Ev.guardB ?_ (fun _=>?_)
    · simp only [qcG,ja,qcH]
      refine Ev.orB (qkZ hc.Av) fun _=>?_
      rw [show decide ((c.Am.length:Int) > 8) = !decide (c.Am.length≤8) by rw [jh];simp;omega,qcH]
      exact Ev.orBP fun _=>Ev.orBP fun _=>.done
    · have hL2:∀ j,j<c.Am.length→Ev (fun n=>qcZ c (j:Int) (gt c.Am j) n 0) (bif newArc c.Am j then .nxt (j:Int) else .ret false):=by
        intro j hj
        refine qdU ?_ (fun i hi X hX=>Ev.succ ?_)
        · exact Ev.succ (by simp only [qcZ,qk (jb _),cond_false];exact .done)
        · simp only [qcZ,qj hi,cond_true,qA (show i<c.Am.length by omega),ja,wS i]
          unfold sameArc
          cases ((gt c.Am i).Ba==(gt c.Am j).Ba)
          · exact hX
          · cases ((gt c.Am i).Bi==(gt c.Am j).Bi)
            · exact hX
            · cases ((gt c.Am i).To==(gt c.Am j).To)
              · exact hX
              · exact .done
      have hL1:Ev (fun n=>qeP c n 0) (bif allN (fun j=>arcS c.Az (gt c.Am j)&&newArc c.Am j) c.Am.length then .nxt (c.Am.length:Int) else .ret false):=by
        refine qdU ?_ (fun j hj X hX=>Ev.succ ?_)
        · exact Ev.succ (by simp only [qeP,qk (jb _),cond_false];exact .done)
        · simp only [qeP,qj hj,cond_true,qA hj,ja,wS j]
          refine Ev.chk (qtC hc.Az (qlO hc.Am hj) hm) fun _=>Ev.bind (hL2 j hj) ?_
          cases newArc c.Am j
          · exact .done
          · exact hX
      have hL3:Ev (fun n=>qeN c n 0) (bif (c.Br.all fun x=>inI x 0 1) then .nxt (c.Br.length:Int) else .ret false) :=
        qnc (fun n=>by simp only [qeN,qk (jb _),cond_false]) (fun j hj X hX=>by
          simp only [qeN,qj hj,cond_true,qhC hj,ja,qcG,wS j,qcH]
          exact Ev.okP1 fun _=>hX)
      refine Ev.bind hL1 ?_
      cases hA:allN (fun j=>arcS c.Az (gt c.Am j)&&newArc c.Am j) c.Am.length
      · exact .done
      · have hk:∀ j,j<c.Am.length→1≤(gt c.Am j).Ba∧(gt c.Am j).Ba≤5:=fun j hj=>by
          have:=qai.1 hA j hj
          rw [jc] at this
          exact qqK this.1
        simp only [cond_true,jv]
        refine Ev.bind (qrR hc.Am hk) ?_
        simp only [(qr0 hm hm5).2,ja,
          show idx (vecC (fun k=>kindN c.Am k c.Am.length) 6) (1:Int)=some ((kindN c.Am 1 c.Am.length:Nat):Int) from qjR (k:=1) (by omega),
          show idx (vecC (fun k=>kindN c.Am k c.Am.length) 6) (2:Int)=some ((kindN c.Am 2 c.Am.length:Nat):Int) from qjR (k:=2) (by omega),
          show idx (vecC (fun k=>kindN c.Am k c.Am.length) 6) (3:Int)=some ((kindN c.Am 3 c.Am.length:Nat):Int) from qjR (k:=3) (by omega),qqn,qs0]
        unfold kindB
        refine Ev.iff (fun _=>?_) (fun _=>Ev.iff (fun _=>?_) (fun _=>Ev.iff (fun _=>?_) (fun _=>.done)))
        · refine Ev.bind hL3 ?_
          cases (c.Br.all fun x=>inI x 0 1)
          · exact Ev.now (by simp)
          · exact (Ev.andP (fun _=>.done)).cast (by rw [Bool.and_true])
        · refine (Ev.andP fun _=>Ev.andP fun _=>Ev.andP fun _=>.done).cast ?_
          cases (((clkN c.Az c.Az.length:Nat):Int)==1)<;>cases ((c.Br.length:Int)==0)<;>cases hasB c.Am ((1:Nat):Int)<;>cases hasB c.Am ((2:Nat):Int)<;>cases hasB c.Am ((3:Nat):Int)<;>rfl
        · refine (Ev.andP fun _=>Ev.andP fun _=>Ev.andP fun _=>Ev.andP fun _=>.done).cast ?_
          cases (((clkN c.Az c.Az.length:Nat):Int)==1)<;>cases ((c.Br.length:Int)==0)<;>cases hasB c.Am ((1:Nat):Int)<;>cases hasB c.Am ((2:Nat):Int)<;>cases hasB c.Am ((3:Nat):Int)<;>rfl
def libB (l:qp):Bool:=l.Ap.all cellB&&(decide (l.Ap.length≤8)&&namesB (l.Ap.map qz.Av))
theorem qqW {l:qp} (h:qgZ l):Ev (fun n=>qhs n l) (libB l):=by
  have hl:=h.Ap.len
  have hL:Ev (fun n=>qcc l n ([]:List ByteArray) 0) (bif allN (fun j=>cellB (gt l.Ap j)) l.Ap.length then .nxt (l.Ap.map qz.Av,(l.Ap.length:Int)) else .ret false):=by
    refine loopN (Lf:=qcc l) (S:=fun j=>(l.Ap.take j).map qz.Av) (fun j=>cellB (gt l.Ap j)) (fun n=>?_) (fun j hj hp X hX=>?_)
    · simp only [qcc,qk (jb _),cond_false,jC]
    · simp only [qcc,qj hj,cond_true,qA hj,ja,qkQ hj hl,qe8 (g:=qz.Av) hj,wS j]
      exact Ev.chk1 (qtn (qlO h.Ap hj)) hX
  unfold qhs libB
  rw [qhk]
  refine Ev.bind hL ?_
  cases allN (fun j=>cellB (gt l.Ap j)) l.Ap.length
  · exact .done
  · simp only [cond_true,jv,show decide ((l.Ap.length:Int)≤8)=decide (l.Ap.length≤8) from qmv (k:=8)]
    exact Ev.andP fun _=>Ev.last (qiy (qmk h.Ap (fun x hx=>hx.Av)))
end Go.Fw


namespace Go.Fw
open Go
set_option maxRecDepth 100000
theorem qsV {c:qz} (h:cellB c=true):nameB c.Av=true:=by
 unfold cellB at h;rw [jc] at h;exact h.1
theorem qh5 {c:qz} (h:cellB c=true):pinsB c.Az=true:=by
 unfold cellB at h;simp only [jc] at h;exact h.2.1
theorem qqe {l:qp} (h:qgZ l):Ev (fun n=>qhP n l) (libB l):=by
 have hl:=h.Ap.len
 have hL2:∀ j,j<l.Ap.length→Ev (fun n=>qc8 l (j:Int) n 0) (bif allN (neB (l.Ap.map qz.Av) j) j then .nxt (j:Int) else .ret false):=by
  intro j hj
  refine qdU ?_ (fun i hi X hX=>Ev.succ ?_)
  ·exact Ev.succ (by simp only [qc8,qk (jb _),cond_false];exact .done)
  ·simp only [qc8,qj hi,cond_true,qA (show i<l.Ap.length by omega),qA hj,ja,qgR,wS i]
   unfold neB
   rw [qjs (g:=qz.Av) (show i<l.Ap.length by omega),qjs (g:=qz.Av) hj]
   exact Ev.chkP1 (fun _=>hX)
 have hL1:Ev (fun n=>qdb l n 0) (bif allN (fun j=>cellB (gt l.Ap j)&&allN (neB (l.Ap.map qz.Av) j) j) l.Ap.length then .nxt (l.Ap.length:Int) else .ret false):=by
  refine qdU ?_ (fun j hj X hX=>Ev.succ ?_)
  ·exact Ev.succ (by simp only [qdb,qk (jb _),cond_false];exact .done)
  ·simp only [qdb,qj hj,cond_true,qA hj,ja,wS j]
   refine Ev.chk (qsA (qlO h.Ap hj)) fun _=>Ev.bind (hL2 j hj) ?_
   cases allN (neB (l.Ap.map qz.Av) j) j
   ·exact .done
   ·exact hX
 have e:libB l=(allN (fun j=>cellB (gt l.Ap j)&&allN (neB (l.Ap.map qz.Av) j) j) l.Ap.length&&decide (l.Ap.length≤8)):=by
  unfold libB namesB
  rw [qhk,ju,Bool.and_comm (decide (l.Ap.length≤8)),←Bool.and_assoc,←qkG]
  congr 1
  refine qg4 (fun j hj=>?_)
  rw [qjs (g:=qz.Av) hj]
  cases hc:cellB (gt l.Ap j)
  ·rfl
  ·rw [qsV hc];rfl
 rw [e]
 unfold qhP
 refine Ev.bind hL1 ?_
 cases allN (fun j=>cellB (gt l.Ap j)&&allN (neB (l.Ap.map qz.Av) j) j) l.Ap.length
 ·exact .done
 ·refine Ev.now ?_
  show some (decide ((l.Ap.length:Int)≤((8:Nat):Int)))=some (true&&decide (l.Ap.length≤8))
  rw [qmv,jv]
theorem qkW {c c':Nat→Nat} {m:Nat} {x:Int} (h0:0≤x) (h1:x<m) (hc:c x.toNat<9223372036854775807) (he:∀ k,k<m→c' k=c k+(bif x==(k:Int) then 1 else 0)) :
  idx (vecC c m) x=some (c x.toNat:Int)∧setS (vecC c m) x (W64 ((c x.toNat:Int)+1))=vecC c' m:=by
 have ex:x=(x.toNat:Int):=qgc h0
 have e1:=qjR (c:=c) (m:=m) (k:=x.toNat) (by omega)
 have e2:=qqM (c:=c) (m:=m) (k:=x.toNat) hc
 rw [←ex] at e1 e2
 refine ⟨e1,e2.trans (qjG (fun k hk=>?_))⟩
 rw [he k hk]
 congr 2
 rw [jh];simp;omega
def netB (d:qd) (x:Int):Bool:=inI x 0 ((d.Aj.length:Int)-1)
theorem qr4 {n:Nat} {d:qd} {x:Int} (hl:d.Aj.length≤1048576):qc6 n d x=some (netB d x):=by
 simp only [qc6,qg5,ja,qc9,qee (show d.Aj.length≤9223372036854775807 by omega)];rfl
theorem qqk {n:Nat} {d:qd} {x:Int} (hl:d.Aj.length≤1048576):qao n x 0 (W64 ((d.Aj.length:Int)-1))=some (netB d x):=by
 rw [qcG,qee (show d.Aj.length≤9223372036854775807 by omega)];rfl
def hasNamesB (d:qd):Bool:=(decide (d.Aa.length≤14)&&(decide (d.Aj.length≤30)&&decide (d.Ah.length≤8)))&&(namesB (d.Aa.map qn.Av)&&(namesB d.Aj&&namesB (d.Ah.map qaf.Av)))
theorem qrD {d:qd} (h:qjn d):Ev (fun n=>qei n d) (hasNamesB d):=by
 have hli:=h.Aa.len
 have hlp:=h.Ah.len
 have hL1:Ev (fun n=>qa5 d n ([]:List ByteArray) 0) (d.Aa.map qn.Av,(d.Aa.length:Int)):=by
  refine loopF (Lf:=qa5 d) (S:=fun j=>(d.Aa.take j).map qn.Av) (len:=d.Aa.length) (fun n=>?_) (fun j hj X hX=>?_)
  ·simp only [qa5,qk (jb _),cond_false,jC]
  ·simpa only [qa5,qj hj,cond_true,qA hj,ja,qkQ hj hli,qe8 (g:=qn.Av) hj,wS j] using hX
 have hL2:Ev (fun n=>qa0 d n ([]:List ByteArray) 0) (d.Ah.map qaf.Av,(d.Ah.length:Int)):=by
  refine loopF (Lf:=qa0 d) (S:=fun j=>(d.Ah.take j).map qaf.Av) (len:=d.Ah.length) (fun n=>?_) (fun j hj X hX=>?_)
  ·simp only [qa0,qk (jb _),cond_false,jC]
  ·simpa only [qa0,qj hj,cond_true,qA hj,ja,qkQ hj hlp,qe8 (g:=qaf.Av) hj,wS j] using hX
 unfold qei hasNamesB
 refine Ev.bind hL1 (Ev.bind hL2 ?_)
 simp only [ju]
 rw [show decide ((d.Aa.length:Int)≤14)=decide (d.Aa.length≤14) from qmv (k:=14),show decide ((d.Aj.length:Int)≤30)=decide (d.Aj.length≤30) from qmv (k:=30),show decide ((d.Ah.length:Int)≤8)=decide (d.Ah.length≤8) from qmv (k:=8)]
 rw [Bool.and_assoc,Bool.and_assoc]
 exact Ev.andP fun _=>Ev.andP fun _=>Ev.andP fun _=>Ev.and (qiy (qmk h.Aa (fun x hx=>hx.Av))) fun _=>Ev.and (qiy h.Aj) fun _=>Ev.last (qiy (qmk h.Ah (fun x hx=>hx.Av)))
def instB (l:qp) (d:qd) (x:qn):Bool:=inI x.Bs 0 ((l.Ap.length:Int)-1)&&(((x.Aj.length:Int)==((gt l.Ap x.Bs.toNat).Az.length:Int))&&x.Aj.all (netB d))
theorem qqb {d:qd} {l:qp} {x:qn} (hn:d.Aj.length≤1048576) (hc:l.Ap.length≤1048576) (hx:x.Aj.length≤1048576):Ev (fun n=>qdw n d l x) (instB l d x):=by
 simp only [qdw,qfG,ja,qc9,qee (show l.Ap.length≤9223372036854775807 by omega)]
 unfold instB
 refine Ev.andP fun hI=>?_
 rw [qa6] at hI
 rw [qeR hI.1 (by omega)]
 simp only [ja]
 refine Ev.andP fun _=>Ev.bind (b:=x.Aj.any fun y=>!netB d y) ?_ (Ev.now (by rw [qo8]))
 unfold qaA
 exact Ev.bind (b:=ixL (fun y=>!netB d y) x.Aj) (qft (fin:=(x.Aj.length:Int)) (Lf:=qG x.Aj d) (pf:=fun n y=>qcV n y d) (fun y _=>⟨0,fun n _=>by simp only [qcV,qr4 hn,ja]⟩)
   (fun n=>by simp only [qG,qk (jb _),cond_false])
   (fun n j y hx=>by
    have hj:=(List.getElem?_eq_some_iff.1 hx).1
    simp only [qG,qj hj,cond_true,qaq hx,ja,wS j])
   (fun n=>by unfold qaQ;congr 1;funext o;cases o<;>rfl)) (Ev.now (by rw [qmZ]))
def portB (d:qd) (p:qaf):Bool:=inI p.Bv 1 2&&netB d p.Bx
theorem qxg {x:Int}:inI x 1 2=((x==1) || (x==2)):=by
 unfold inI;rw [jh];simp;omega
def lastN (x:qn):Int:=at0 x.Aj (x.Aj.length-1)
theorem qr6 {x:qn} (h1:1≤x.Aj.length) (h2:x.Aj.length≤1048576):idx x.Aj (W64 ((x.Aj.length:Int)-1))=some (lastN x):=by
 rw [qee (by omega),show ((x.Aj.length:Int)-1)=((x.Aj.length-1:Nat):Int) by omega,qae (by omega)];rfl
theorem qtS {d:qd} {x:qn} (h1:1≤x.Aj.length) (h:x.Aj.all (netB d)=true):0≤lastN x∧lastN x<d.Aj.length:=by
 rw [qf3 (d:=0),qai] at h
 have:=h (x.Aj.length-1) (by omega)
 unfold netB at this
 rw [qa6] at this
 unfold lastN at0
 omega
theorem qpd {l:qp} {d:qd} {x:qn} (hl:libB l=true) (h:instB l d x=true):1≤x.Aj.length∧0≤lastN x∧lastN x<d.Aj.length:=by
 unfold instB at h
 simp only [jc,qa6,beq_iff_eq] at h
 obtain ⟨h1,h2,h3⟩:=h
 unfold libB at hl
 simp only [jc] at hl
 have hc:=hl.1
 rw [qhk,qai] at hc
 have:=qf1 (qh5 (hc x.Bs.toNat (by omega)))
 have h4:1≤x.Aj.length:=by omega
 exact ⟨h4,qtS h4 h3⟩
def drvI (d:qd) (k j:Nat):Nat:=cntP (fun i=>lastN (gt d.Aa i)==(k:Int)) j
def drvP (d:qd) (k j:Nat):Nat:=cntP (fun i=>((gt d.Ah i).Bv==1)&&((gt d.Ah i).Bx==(k:Int))) j
def drvB (d:qd):Bool:=allN (fun k=>((drvI d k d.Aa.length+drvP d k d.Ah.length:Nat):Int)==1) d.Aj.length
def designB (l:qp) (d:qd):Bool:=(libB l&&hasNamesB d)&&(d.Aa.all (instB l d)&&(d.Ah.all (portB d)&&drvB d))
theorem qnJ {d:qd} {k j:Nat}:drvI d k (j+1)=drvI d k j+(bif lastN (gt d.Aa j)==(k:Int) then 1 else 0):=rfl
theorem qmu {d:qd} {k j:Nat}:drvP d k (j+1)=drvP d k j+(bif ((gt d.Ah j).Bv==1)&&((gt d.Ah j).Bx==(k:Int)) then 1 else 0):=rfl
theorem qrQ {l:qp} {d:qd} (h:qgZ l) (hd:qjn d):Ev (fun n=>qin n l d) (designB l d):=by
 have hli:=hd.Aa.len
 have hlp:=hd.Ah.len
 have hln:=hd.Aj.len
 have hlc:=h.Ap.len
 unfold qin designB
 refine Ev.guardB (Ev.or (qqW h) fun _=>Ev.neg (qrD hd)) fun hb=>?_
 rw [jc] at hb
 rw [qmo (m:=d.Aj.length) (by omega)]
 simp only [ja]
 have hL1:Ev (fun n=>qcK l d n (vecC (fun _=>0) d.Aj.length) 0) (bif allN (fun j=>instB l d (gt d.Aa j)) d.Aa.length then .nxt (vecC (fun k=>drvI d k d.Aa.length) d.Aj.length,(d.Aa.length:Int)) else .ret false):=by
  refine loopN (Lf:=qcK l d) (S:=fun j=>vecC (fun k=>drvI d k j) d.Aj.length) (fun j=>instB l d (gt d.Aa j)) (fun n=>?_) (fun j hj hp X hX=>?_)
  ·simp only [qcK,qk (jb _),cond_false]
  ·simp only [qcK,qj hj,cond_true,qA hj,ja,wS j]
   have hxl:=(qlO hd.Aa hj).Aj.len
   refine Ev.chk1 (qqb hln hlc hxl) fun hi=>?_
   obtain ⟨h1,h2,h3⟩:=qpd hb.1 hi
   have hc:drvI d (lastN (gt d.Aa j)).toNat j≤j:=qe1
   obtain ⟨e1,e2⟩:=qkW (c:=fun k=>drvI d k j) (c':=fun k=>drvI d k (j+1)) h2 h3 (by show drvI _ _ _<_;omega) (fun k _=>qnJ)
   simp only [qr6 h1 hxl,ja,e1,e2]
   exact hX hi
 have hL2:Ev (fun n=>qb4 d n (vecC (fun k=>drvI d k d.Aa.length) d.Aj.length) 0) (bif allN (fun j=>portB d (gt d.Ah j)) d.Ah.length then .nxt (vecC (fun k=>drvI d k d.Aa.length+drvP d k d.Ah.length) d.Aj.length,(d.Ah.length:Int)) else .ret false):=by
  refine loopN (Lf:=qb4 d) (S:=fun j=>vecC (fun k=>drvI d k d.Aa.length+drvP d k j) d.Aj.length) (fun j=>portB d (gt d.Ah j)) (fun n=>?_) (fun j hj hp X hX=>?_)
  ·simp only [qb4,qk (jb _),cond_false]
  ·simp only [qb4,qj hj,cond_true,qA hj,ja,qr4 hln,bne,wS j]
   refine Ev.chkT1 ?_ fun hi=>?_
   ·unfold portB
    rw [qxg]
    cases ((gt d.Ah j).Bv==1)<;>cases ((gt d.Ah j).Bv==2)<;>exact .done
   ·have hX:=hX hi
    unfold portB netB at hi
    simp only [jc,qa6] at hi
    have hc1:drvI d (gt d.Ah j).Bx.toNat d.Aa.length≤d.Aa.length:=qe1
    have hc2:drvP d (gt d.Ah j).Bx.toNat j≤j:=qe1
    cases h1:((gt d.Ah j).Bv==1)
    ·have:vecC (fun k=>drvI d k d.Aa.length+drvP d k (j+1)) d.Aj.length=vecC (fun k=>drvI d k d.Aa.length+drvP d k j) d.Aj.length:=by
      refine qjG (fun k _=>?_)
      rw [qmu,h1];rfl
     rw [this] at hX
     exact hX
    ·obtain ⟨e1,e2⟩:=qkW (c:=fun k=>drvI d k d.Aa.length+drvP d k j) (c':=fun k=>drvI d k d.Aa.length+drvP d k (j+1)) (x:=(gt d.Ah j).Bx) (m:=d.Aj.length) hi.2.1 (by omega) (by show drvI _ _ _+drvP _ _ _<_;omega) (fun k _=>by rw [qmu,h1,jv];omega)
     simp only [cond_true,ja,e1,e2]
     exact hX
 rw [qhk,qhk]
 refine Ev.bind hL1 ?_
 cases allN (fun j=>instB l d (gt d.Aa j)) d.Aa.length
 ·exact .done
 ·refine Ev.bind hL2 ?_
  cases allN (fun j=>portB d (gt d.Ah j)) d.Ah.length
  ·exact .done
  ·simp only [cond_true,jv]
   unfold qbw
   refine Ev.bind (b:=(vecC (fun k=>drvI d k d.Aa.length+drvP d k d.Ah.length) d.Aj.length).any fun x=>!(x==1)) (Ev.bind (b:=ixL (fun x=>!(x==1)) (vecC (fun k=>drvI d k d.Aa.length+drvP d k d.Ah.length) d.Aj.length)) (qft (fin:=(((vecC (fun k=>drvI d k d.Aa.length+drvP d k d.Ah.length) d.Aj.length).length:Nat):Int)) (Lf:=qac (vecC (fun k=>drvI d k d.Aa.length+drvP d k d.Ah.length) d.Aj.length)) (pf:=fun n y=>qiX n y) (fun y _=>.done)
    (fun n=>by simp only [qac,qk (jb _),cond_false])
    (fun n j y hx=>by
     have hj:=(List.getElem?_eq_some_iff.1 hx).1
     have:j<d.Aj.length:=by rw [qmj] at hj;exact hj
     simp only [qac,qj hj,cond_true,qaq hx,ja,wS j])
    (fun n=>by unfold qbK;congr 1;funext o;cases o<;>rfl)) (Ev.now (by rw [qmZ]))) (Ev.now ?_)
   rw [qo8,qf3 (d:=0),qmj]
   unfold drvB
   congr 1
   exact qg4 (fun k hk=>by
    have:=qrr (c:=fun k=>drvI d k d.Aa.length+drvP d k d.Ah.length) hk
    unfold at0 at this
    rw [this])
theorem qrX {l:qp} {d:qd} (h:qgZ l) (hd:qjn d):Ev (fun n=>qij n l d) (d.Aa.all (instB l d)&&d.Ah.all (portB d)):=by
 have hli:=hd.Aa.len
 have hlp:=hd.Ah.len
 have hln:=hd.Aj.len
 have hlc:=h.Ap.len
 have hL2:∀ x:qn,x.Aj.length≤1048576→Ev (fun n=>qdD d x n 0) (bif x.Aj.all (netB d) then .nxt (x.Aj.length:Int) else .ret false):=fun x hx =>
  qnc (fun n=>by simp only [qdD,qk (jb _),cond_false]) (fun j hj X hX=>by
   simp only [qdD,qj hj,cond_true,qhC hj,ja,qqk hln,wS j,qcH]
   exact Ev.okP1 fun _=>hX)
 have hL1:Ev (fun n=>qdK l d n 0) (bif allN (fun j=>instB l d (gt d.Aa j)) d.Aa.length then .nxt (d.Aa.length:Int) else .ret false):=by
  refine qdU ?_ (fun j hj X hX=>Ev.succ ?_)
  ·exact Ev.succ (by simp only [qdK,qk (jb _),cond_false];exact .done)
  ·simp only [qdK,qj hj,cond_true,qA hj,ja,qcG,qee (show l.Ap.length≤9223372036854775807 by omega),wS j,bne]
   have hxl:=(qlO hd.Aa hj).Aj.len
   unfold instB
   rw [←Bool.and_assoc]
   refine Ev.chkT ?_ fun _=>Ev.bind (hL2 _ hxl) ?_
   ·simp only [qcH]
    refine Ev.orBP fun hI=>?_
    rw [qa6] at hI
    rw [qeR hI.1 (by omega)]
    exact .done
   ·cases (gt d.Aa j).Aj.all (netB d)
    ·exact .done
    ·exact hX
 have hL3:Ev (fun n=>qdJ d n 0) (bif allN (fun j=>portB d (gt d.Ah j)) d.Ah.length then .nxt (d.Ah.length:Int) else .ret false):=by
  refine qdU ?_ (fun j hj X hX=>Ev.succ ?_)
  ·exact Ev.succ (by simp only [qdJ,qk (jb _),cond_false];exact .done)
  ·simp only [qdJ,qj hj,cond_true,qA hj,ja,qqk hln,wS j]
   simp only [qcG,ja,qcH]
   unfold portB
   exact Ev.okP fun _=>Ev.okP1 fun _=>hX
 unfold qij
 rw [qhk,qhk]
 refine Ev.bind hL1 ?_
 cases allN (fun j=>instB l d (gt d.Aa j)) d.Aa.length
 ·exact .done
 ·refine Ev.bind hL3 ?_
  cases allN (fun j=>portB d (gt d.Ah j)) d.Ah.length<;>exact .done
theorem qqP {l:qp} {d:qd} (h:qgZ l) (hd:qjn d):Ev (fun n=>qic n l d) (designB l d):=by
 have hli:=hd.Aa.len
 have hlp:=hd.Ah.len
 have hln:=hd.Aj.len
 have hlc:=h.Ap.len
 have e:designB l d=((libB l&&(decide (d.Aa.length≤14)&&(decide (d.Aj.length≤30)&&(decide (d.Ah.length≤8)&&(d.Aa.all (instB l d)&&d.Ah.all (portB d))))))&&((namesB (d.Aa.map qn.Av)&&(namesB (d.Ah.map qaf.Av)&&namesB d.Aj))&&drvB d)):=by
  unfold designB hasNamesB
  generalize libB l=a1
  generalize decide (d.Aa.length≤14)=a2
  generalize decide (d.Aj.length≤30)=a3
  generalize decide (d.Ah.length≤8)=a4
  generalize d.Aa.all (instB l d)=a5
  generalize d.Ah.all (portB d)=a6
  generalize namesB (d.Aa.map qn.Av)=a7
  generalize namesB (d.Ah.map qaf.Av)=a8
  generalize namesB d.Aj=a9
  generalize drvB d=a10
  rw [jh]
  simp only [jc]
  constructor
  ·rintro ⟨⟨h1,⟨h2,h3,h4⟩,h7,h9,h8⟩,h5,h6,h10⟩
   exact ⟨⟨h1,h2,h3,h4,h5,h6⟩,⟨h7,h8,h9⟩,h10⟩
  ·rintro ⟨⟨h1,h2,h3,h4,h5,h6⟩,⟨h7,h8,h9⟩,h10⟩
   exact ⟨⟨h1,⟨h2,h3,h4⟩,h7,h9,h8⟩,h5,h6,h10⟩
 rw [e]
 unfold qic
 refine Ev.guardB ?_ fun hb=>?_
 ·refine Ev.or (qqe h) fun _=>?_
  rw [show decide ((d.Aa.length:Int) > 14) = !decide (d.Aa.length≤14) by rw [jh];simp;omega,show decide ((d.Aj.length:Int) > 30) = !decide (d.Aj.length≤30) by rw [jh];simp;omega,show decide ((d.Ah.length:Int) > 8) = !decide (d.Ah.length≤8) by rw [jh];simp;omega]
  simp only [qcH]
  exact Ev.orBP fun _=>Ev.orBP fun _=>Ev.orBP fun _=>Ev.neg (qrX h hd)
 ·simp only [jc] at hb
  obtain ⟨hlib,_,_,_,hI,hP⟩:=hb
  rw [qhk,qai] at hI hP
  have hL1:Ev (fun n=>qcN d n ([]:List ByteArray) 0) (d.Aa.map qn.Av,(d.Aa.length:Int)):=by
   refine loopF (Lf:=qcN d) (S:=fun j=>(d.Aa.take j).map qn.Av) (len:=d.Aa.length) (fun n=>?_) (fun j hj X hX=>?_)
   ·simp only [qcN,qk (jb _),cond_false,jC]
   ·simpa only [qcN,qj hj,cond_true,qA hj,ja,qkQ hj hli,qe8 (g:=qn.Av) hj,wS j] using hX
  have hL2:Ev (fun n=>qcR d n ([]:List ByteArray) 0) (d.Ah.map qaf.Av,(d.Ah.length:Int)):=by
   refine loopF (Lf:=qcR d) (S:=fun j=>(d.Ah.take j).map qaf.Av) (len:=d.Ah.length) (fun n=>?_) (fun j hj X hX=>?_)
   ·simp only [qcR,qk (jb _),cond_false,jC]
   ·simpa only [qcR,qj hj,cond_true,qA hj,ja,qkQ hj hlp,qe8 (g:=qaf.Av) hj,wS j] using hX
  have hL3:Ev (fun n=>qcT d n (vecC (fun _=>0) d.Aj.length) 0) (vecC (fun k=>drvI d k d.Aa.length) d.Aj.length,(d.Aa.length:Int)):=by
   refine loopF (Lf:=qcT d) (S:=fun j=>vecC (fun k=>drvI d k j) d.Aj.length) (len:=d.Aa.length) (fun n=>?_) (fun j hj X hX=>?_)
   ·simp only [qcT,qk (jb _),cond_false]
   ·have hxl:=(qlO hd.Aa hj).Aj.len
    obtain ⟨h1,h2,h3⟩:=qpd hlib (hI j hj)
    have hc:drvI d (lastN (gt d.Aa j)).toNat j≤j:=qe1
    obtain ⟨e1,e2⟩:=qkW (c:=fun k=>drvI d k j) (c':=fun k=>drvI d k (j+1)) h2 h3 (by show drvI _ _ _<_;omega) (fun k _=>qnJ)
    simpa only [qcT,qj hj,cond_true,qA hj,ja,wS j,qr6 h1 hxl,e1,e2] using hX
  have hL4:Ev (fun n=>qb2 d n (vecC (fun k=>drvI d k d.Aa.length) d.Aj.length) 0) (vecC (fun k=>drvI d k d.Aa.length+drvP d k d.Ah.length) d.Aj.length,(d.Ah.length:Int)):=by
   refine loopF (Lf:=qb2 d) (S:=fun j=>vecC (fun k=>drvI d k d.Aa.length+drvP d k j) d.Aj.length) (len:=d.Ah.length) (fun n=>?_) (fun j hj X hX=>?_)
   ·simp only [qb2,qk (jb _),cond_false]
   ·have hi:=hP j hj
    unfold portB netB at hi
    simp only [jc,qa6] at hi
    have hc1:drvI d (gt d.Ah j).Bx.toNat d.Aa.length≤d.Aa.length:=qe1
    have hc2:drvP d (gt d.Ah j).Bx.toNat j≤j:=qe1
    simp only [qb2,qj hj,cond_true,qA hj,ja,wS j]
    cases h1:((gt d.Ah j).Bv==1)
    ·have:vecC (fun k=>drvI d k d.Aa.length+drvP d k (j+1)) d.Aj.length=vecC (fun k=>drvI d k d.Aa.length+drvP d k j) d.Aj.length:=by
      refine qjG (fun k _=>?_)
      rw [qmu,h1];rfl
     rw [this] at hX
     exact hX
    ·obtain ⟨e1,e2⟩:=qkW (c:=fun k=>drvI d k d.Aa.length+drvP d k j) (c':=fun k=>drvI d k d.Aa.length+drvP d k (j+1)) (x:=(gt d.Ah j).Bx) (m:=d.Aj.length) hi.2.1 (by omega) (by show drvI _ _ _+drvP _ _ _<_;omega) (fun k _=>by rw [qmu,h1,jv];omega)
     simp only [cond_true,ja,e1,e2]
     exact hX
  have hL5:Ev (fun n=>qdM (vecC (fun _=>0) d.Aj.length) (vecC (fun k=>drvI d k d.Aa.length+drvP d k d.Ah.length) d.Aj.length) n 0) (bif drvB d then .nxt (d.Aj.length:Int) else .ret false):=by
   refine qdU ?_ (fun j hj X hX=>Ev.succ ?_)
   ·exact Ev.succ (by simp only [qdM,qmj,qk (jb _),cond_false];exact .done)
   ·simp only [qdM,qmj,qj hj,cond_true,qjR hj,ja,bne,qcH,wS j]
    exact Ev.okP1 fun _=>hX
  refine Ev.bind hL1 (Ev.bind hL2 ?_)
  refine Ev.guardB (Ev.or (qma (qmk hd.Aa (fun x hx=>hx.Av))) fun _=>Ev.or (qma (qmk hd.Ah (fun x hx=>hx.Av))) fun _=>Ev.neg (qma hd.Aj)) fun _=>?_
  rw [qmo (m:=d.Aj.length) (by omega)]
  simp only [ja]
  refine Ev.bind hL3 (Ev.bind hL4 (Ev.bind hL5 ?_))
  cases drvB d<;>exact .done
end Go.Fw


namespace Go.Fw
open Go
set_option maxRecDepth 100000
theorem qwk {m k:Nat}:decide ((m:Int)<(k:Int)) = !decide (k≤m):=by rw [jh];simp
theorem qwa {m k:Nat}:decide ((m:Int) > (k:Int)) = !decide (m≤k):=by rw [jh];simp
def treeB (w:qO) (j:Nat):Bool:=bif decide (j=0) then (at0 w.Ai j==-1)&&(at0 w.Bw j==0) else inI (at0 w.Ai j) 0 ((j:Int)-1)
def wireB (w:qO) (s:Int):Bool :=
 lenB w.Ai 1 8&&(((w.Bw.length:Int)==(w.Ai.length:Int))&&(((w.Bt.length:Int)==(w.Ai.length:Int))&&(allN (treeB w) w.Ai.length &&
  ((w.Bw.all fun x=>inI x 0 1000)&&((w.Bt.all fun x=>inI x 0 500)&&(((w.Bj.length:Int)==s)&&(w.Bj.all fun x=>inI x 0 ((w.Ai.length:Int)-1))))))))
theorem qtz {w:qO} (hl:w.Ai.length≤1048576) (hr:((w.Bw.length:Int)==(w.Ai.length:Int))=true):Ev (fun n=>qgu n w) (allN (treeB w) w.Ai.length):=by
 rw [beq_iff_eq] at hr
 have hL:Ev (fun n=>qaU w n 0) (bif allN (treeB w) w.Ai.length then .nxt (w.Ai.length:Int) else .ret false):=by
  refine qdU ?_ (fun j hj X hX=>Ev.succ ?_)
  ·exact Ev.succ (by simp only [qaU,qk (jb _),cond_false];exact .done)
  ·simp only [qaU,qj hj,cond_true,qae hj,ja,qc9,wS j,bne,qcH]
   unfold treeB
   by_cases h0:j=0
   ·subst h0
    rw [show idx w.Bw (0:Int)=some (at0 w.Bw 0) from qae (j:=0) (by omega)]
    simp only [ja]
    refine Ev.tt (by simp) (Ev.okP fun _=>Ev.okP1 fun _=>Ev.ff (by simp) hX)
   ·have e1:decide (j=0)=false:=by simp;omega
    have e2:((j:Int)==0)=false:=by simp;omega
    have e3:decide ((j:Int) > 0)=true:=by simp;omega
    rw [e1,e2,e3,qee (show j≤9223372036854775807 by omega)]
    simp only [cond_false,cond_true]
    exact Ev.okP1 fun _=>hX
 unfold qgu
 refine Ev.bind hL ?_
 cases allN (treeB w) w.Ai.length<;>exact .done
theorem qtr {w:qO} {s:Int} (h:qnt w):Ev (fun n=>qkn n w s) (wireB w s):=by
 have hl:=h.Ai.len
 simp only [qkn,qa7,ja,qc9,qee (show w.Ai.length≤9223372036854775807 by omega)]
 unfold wireB
 rw [show inI (w.Ai.length:Int) 1 8=lenB w.Ai 1 8 from qq0 (lo:=1) (hi:=8)]
 exact Ev.andP fun _=>Ev.andP fun hr=>Ev.andP fun _=>Ev.and (qtz hl hr) fun _=>Ev.and (qe9 h.Bw.len) fun _=>Ev.and (qe9 h.Bt.len) fun _=>Ev.andP fun _=>Ev.last (qe9 h.Bj.len)
theorem qsz {w:qO} {s:Int} (h:qnt w):Ev (fun n=>qkt n w s) (wireB w s):=by
 have hl:=h.Ai.len
 have hsl:=h.Bj.len
 have e:wireB w s=((decide (1≤w.Ai.length)&&(decide (w.Ai.length≤8)&&(((w.Bw.length:Int)==(w.Ai.length:Int))&&(((w.Bt.length:Int)==(w.Ai.length:Int))&&((w.Bj.length:Int)==s)))))&&(allN (fun j=>(inI (at0 w.Bt j) 0 500&&inI (at0 w.Bw j) 0 1000)&&treeB w j) w.Ai.length&&(w.Bj.all fun x=>inI x 0 ((w.Ai.length:Int)-1)))):=by
  unfold wireB lenB
  cases h1:((w.Bw.length:Int)==(w.Ai.length:Int))
  ·simp
  ·cases h2:((w.Bt.length:Int)==(w.Ai.length:Int))
   ·simp
   ·rw [beq_iff_eq] at h1 h2
    rw [qkG,qkG]
    rw [qf3 (p:=fun x=>inI x 0 1000) (d:=0),qf3 (p:=fun x=>inI x 0 500) (d:=0),show w.Bw.length=w.Ai.length by omega,show w.Bt.length=w.Ai.length by omega]
    show _=(_&&((allN (fun j=>inI (w.Bt.getD j 0) 0 500) _&&allN (fun j=>inI (w.Bw.getD j 0) 0 1000) _&&_)&&_))
    generalize allN (fun j=>inI (w.Bt.getD j 0) 0 500) w.Ai.length=a1
    generalize allN (fun j=>inI (w.Bw.getD j 0) 0 1000) w.Ai.length=a2
    generalize allN (fun j=>treeB w j) w.Ai.length=a3
    generalize ((w.Bj.length:Int)==s)=a4
    generalize decide (1≤w.Ai.length)=a5
    generalize decide (w.Ai.length≤8)=a6
    generalize (w.Bj.all fun x=>inI x 0 ((w.Ai.length:Int)-1))=a7
    cases a1<;>cases a2<;>cases a3<;>cases a4<;>cases a5<;>cases a6<;>rfl
 rw [e]
 unfold qkt
 refine Ev.guardB ?_ fun hb=>?_
 ·rw [show decide ((w.Ai.length:Int)<1) = !decide (1≤w.Ai.length) from qwk (k:=1),show decide ((w.Ai.length:Int) > 8) = !decide (w.Ai.length≤8) from qwa (k:=8)]
  simp only [bne,qcH]
  exact Ev.orBP fun _=>Ev.orBP fun _=>Ev.orBP fun _=>Ev.orBP fun _=>.done
 ·simp only [jc,beq_iff_eq] at hb
  have hL1:Ev (fun n=>qcb w n 0) (bif allN (fun j=>(inI (at0 w.Bt j) 0 500&&inI (at0 w.Bw j) 0 1000)&&treeB w j) w.Ai.length then .nxt (w.Ai.length:Int) else .ret false):=by
   refine qdU ?_ (fun j hj X hX=>Ev.succ ?_)
   ·exact Ev.succ (by simp only [qcb,qk (jb _),cond_false];exact .done)
   ·simp only [qcb,qj hj,cond_true,qae hj,qae (show j<w.Bt.length by omega),qae (show j<w.Bw.length by omega),ja,qcG,wS j,bne,qcH]
    refine Ev.chkT (Ev.orBP fun _=>.done) fun _=>?_
    unfold treeB
    by_cases h0:j=0
    ·subst h0
     refine Ev.tt (by simp) (Ev.okP fun _=>Ev.okP1 fun _=>Ev.ff (by simp) hX)
    ·have e1:decide (j=0)=false:=by simp;omega
     have e2:((j:Int)==0)=false:=by simp;omega
     have e3:decide ((j:Int) > 0)=true:=by simp;omega
     rw [e1,e2,e3,qee (show j≤9223372036854775807 by omega)]
     simp only [cond_false,cond_true]
     exact Ev.okP1 fun _=>hX
  have hL2:Ev (fun n=>qeL w n 0) (bif (w.Bj.all fun x=>inI x 0 ((w.Ai.length:Int)-1)) then .nxt (w.Bj.length:Int) else .ret false) :=
   qnc (fun n=>by simp only [qeL,qk (jb _),cond_false]) (fun j hj X hX=>by
    simp only [qeL,qj hj,cond_true,qhC hj,ja,qcG,qee (show w.Ai.length≤9223372036854775807 by omega),wS j,qcH]
    exact Ev.okP1 fun _=>hX)
  refine Ev.bind hL1 ?_
  cases allN (fun j=>(inI (at0 w.Bt j) 0 500&&inI (at0 w.Bw j) 0 1000)&&treeB w j) w.Ai.length
  ·exact .done
  ·refine Ev.bind hL2 ?_
   cases (w.Bj.all fun x=>inI x 0 ((w.Ai.length:Int)-1))<;>exact .done
instance:Inhabited Tplace:=⟨⟨0,0,0,false⟩⟩
instance:Inhabited Tl05Place:=⟨⟨0,0,0,false⟩⟩
def toSp (p:Tplace):Tl05Place:=⟨p.instance_,p.pin,p.net,p.drives⟩
def plX (i:Nat) (x:qn) (j:Nat):List Tplace:=(List.range j).map fun (k:Nat)=>⟨(i:Int),(k:Int),at0 x.Aj k,decide (k+1=x.Aj.length)⟩
def plI (d:qd) (j:Nat):List Tplace:=(List.range j).flatMap fun (i:Nat)=>plX i (gt d.Aa i) (gt d.Aa i).Aj.length
def plP (d:qd) (j:Nat):List Tplace:=(List.range j).map fun (i:Nat)=>⟨-1,(i:Int),(gt d.Ah i).Bx,(gt d.Ah i).Bv==1⟩
def places (d:qd):List Tplace:=plI d d.Aa.length++plP d d.Ah.length
theorem qrK {i:Nat} {x:qn} {j:Nat}:plX i x (j+1)=plX i x j++[⟨(i:Int),(j:Int),at0 x.Aj j,decide (j+1=x.Aj.length)⟩]:=by
 unfold plX;rw [List.range_succ,jM];rfl
theorem qlT {d:qd} {j:Nat}:plI d (j+1)=plI d j++plX j (gt d.Aa j) (gt d.Aa j).Aj.length:=by
 unfold plI;rw [List.range_succ,List.flatMap_append];simp
theorem qsg {d:qd} {j:Nat}:plP d (j+1)=plP d j++[⟨-1,(j:Int),(gt d.Ah j).Bx,(gt d.Ah j).Bv==1⟩]:=by
 unfold plP;rw [List.range_succ,jM];rfl
theorem qo7 {i:Nat} {x:qn} {j:Nat}:(plX i x j).length=j:=by simp [plX]
theorem qo0 {d:qd} {j:Nat}:(plP d j).length=j:=by simp [plP]
structure smallD (d:qd):Prop where
 ni:d.Aa.length≤14
 nn:d.Aj.length≤30
 np:d.Ah.length≤8
 nx:∀ i,i<d.Aa.length→2≤(gt d.Aa i).Aj.length∧(gt d.Aa i).Aj.length≤5
theorem qag {l:qp} {d:qd} (h:designB l d=true):smallD d:=by
 unfold designB hasNamesB libB at h
 simp only [jc,decide_eq_true_eq] at h
 obtain ⟨⟨⟨hc,_⟩,⟨h1,h2,h3⟩,_⟩,hI,_⟩:=h
 refine ⟨h1,h2,h3,fun i hi=>?_⟩
 rw [qhk,qai] at hI hc
 have:=hI i hi
 unfold instB at this
 simp only [jc,qa6,beq_iff_eq] at this
 have h5:=qf1 (qh5 (hc (gt d.Aa i).Bs.toNat (by omega)))
 omega
theorem qm4 {d:qd} (h:smallD d) {j:Nat} (hj:j≤d.Aa.length):(plI d j).length≤5*j:=by
 induction j with
 | zero=>exact jb _
 | succ j ih =>
  rw [qlT,je,qo7]
  have:=ih (by omega)
  have:=h.nx j (by omega)
  omega
theorem qbL {d:qd} (h:smallD d):(places d).length≤78:=by
 unfold places
 rw [je,qo0]
 have:=qm4 h (jb _)
 have:=h.ni
 have:=h.np
 omega
theorem qmr {d:qd} (h:smallD d):Ev (fun n=>qbY n d) (places d):=by
 have h1:=h.ni
 have h2:=h.np
 have hL2:∀ i,i<d.Aa.length→∀ pre:List Tplace,pre.length≤100→Ev (fun n=>qbs (i:Int) (gt d.Aa i) n pre 0) (pre++plX i (gt d.Aa i) (gt d.Aa i).Aj.length,((gt d.Aa i).Aj.length:Int)):=by
  intro i hi pre hp
  have h5:=h.nx i hi
  have:=loopF (Lf:=qbs (i:Int) (gt d.Aa i)) (S:=fun j=>pre++plX i (gt d.Aa i) j) (len:=(gt d.Aa i).Aj.length) (fin:=(pre++plX i (gt d.Aa i) (gt d.Aa i).Aj.length,((gt d.Aa i).Aj.length:Int))) (fun n=>by
    simp only [qbs,qk (jb _),cond_false])
   (fun j hj X hX=>by
    have hc:(pre++plX i (gt d.Aa i) j).length+[(⟨(i:Int),(j:Int),at0 (gt d.Aa i).Aj j,decide (j+1=(gt d.Aa i).Aj.length)⟩:Tplace)].length≤2147483648:=by
     rw [je,qo7];simp;omega
    simp only [qbs,qj hj,cond_true,qae hj,ja,lastE hj (show (gt d.Aa i).Aj.length≤1048576 by omega),qcE hc,jm,←qrK,wS j]
    exact hX)
  simpa [plX] using this
 have hL1:Ev (fun n=>qbu d n ([]:List Tplace) 0) (plI d d.Aa.length,(d.Aa.length:Int)):=by
  refine loopF (Lf:=qbu d) (S:=fun j=>plI d j) (len:=d.Aa.length) (fun n=>?_) (fun j hj X hX=>?_)
  ·simp only [qbu,qk (jb _),cond_false]
  ·simp only [qbu,qj hj,cond_true,qA hj,ja,wS j]
   refine Ev.bind (hL2 j hj _ (by have:=qm4 h (Nat.le_of_lt hj);omega)) ?_
   rw [←qlT]
   exact hX
 have hL3:Ev (fun n=>qbr d n (plI d d.Aa.length) 0) (places d,(d.Ah.length:Int)):=by
  have:=loopF (Lf:=qbr d) (S:=fun j=>plI d d.Aa.length++plP d j) (len:=d.Ah.length) (fin:=(places d,(d.Ah.length:Int))) (fun n=>by
    simp only [qbr,qk (jb _),cond_false];rfl)
   (fun j hj X hX=>by
    have hc:(plI d d.Aa.length++plP d j).length+[(⟨-1,(j:Int),(gt d.Ah j).Bx,(gt d.Ah j).Bv==1⟩:Tplace)].length≤2147483648:=by
     rw [je,qo0];have:=qm4 h (jb _);simp;omega
    simp only [qbr,qj hj,cond_true,qA hj,ja,qcE hc,jm,←qsg,wS j]
    exact hX)
  simpa [plP] using this
 unfold qbY
 exact Ev.bind hL1 (Ev.bind hL3 .done)
theorem qg6 {d:qd} (h:smallD d):Ev (fun n=>qbU n d) ((places d).map toSp):=by
 have h1:=h.ni
 have h2:=h.np
 have hL2:∀ i,i<d.Aa.length→∀ pre:List Tplace,pre.length≤100→Ev (fun n=>qch (i:Int) (gt d.Aa i) n (pre.map toSp) 0) ((pre++plX i (gt d.Aa i) (gt d.Aa i).Aj.length).map toSp,((gt d.Aa i).Aj.length:Int)):=by
  intro i hi pre hp
  have h5:=h.nx i hi
  have:=loopF (Lf:=qch (i:Int) (gt d.Aa i)) (S:=fun j=>(pre++plX i (gt d.Aa i) j).map toSp) (len:=(gt d.Aa i).Aj.length) (fin:=((pre++plX i (gt d.Aa i) (gt d.Aa i).Aj.length).map toSp,((gt d.Aa i).Aj.length:Int))) (fun n=>by
    simp only [qch,qk (jb _),cond_false])
   (fun j hj X hX=>by
    have hc:((pre++plX i (gt d.Aa i) j).map toSp).length+[(⟨(i:Int),(j:Int),at0 (gt d.Aa i).Aj j,decide (j+1=(gt d.Aa i).Aj.length)⟩:Tl05Place)].length≤2147483648:=by
     rw [ju,je,qo7];simp;omega
    simp only [qch,qj hj,cond_true,qae hj,ja,lastE hj (show (gt d.Aa i).Aj.length≤1048576 by omega),qcE hc,wS j]
    rw [qrK,←jm,jM] at hX
    exact hX)
  simpa [plX] using this
 have hL1:Ev (fun n=>qci d n ([]:List Tl05Place) 0) ((plI d d.Aa.length).map toSp,(d.Aa.length:Int)):=by
  refine loopF (Lf:=qci d) (S:=fun j=>(plI d j).map toSp) (len:=d.Aa.length) (fun n=>?_) (fun j hj X hX=>?_)
  ·simp only [qci,qk (jb _),cond_false]
  ·simp only [qci,qj hj,cond_true,qA hj,ja,wS j]
   refine Ev.bind (hL2 j hj _ (by have:=qm4 h (Nat.le_of_lt hj);omega)) ?_
   rw [←qlT]
   exact hX
 have hL3:Ev (fun n=>qcd d n ((plI d d.Aa.length).map toSp) 0) ((places d).map toSp,(d.Ah.length:Int)):=by
  have:=loopF (Lf:=qcd d) (S:=fun j=>(plI d d.Aa.length++plP d j).map toSp) (len:=d.Ah.length) (fin:=((places d).map toSp,(d.Ah.length:Int))) (fun n=>by
    simp only [qcd,qk (jb _),cond_false];rfl)
   (fun j hj X hX=>by
    have hc:((plI d d.Aa.length++plP d j).map toSp).length+[(⟨-1,(j:Int),(gt d.Ah j).Bx,(gt d.Ah j).Bv==1⟩:Tl05Place)].length≤2147483648:=by
     rw [ju,je,qo0];have:=qm4 h (jb _);simp;omega
    simp only [qcd,qj hj,cond_true,qA hj,ja,qcE hc,wS j]
    rw [qsg,←jm,jM] at hX
    exact hX)
  simpa [plP] using this
 unfold qbU
 exact Ev.bind hL1 (Ev.bind hL3 .done)
def snkQ (d:qd) (k:Int) (i:Nat):Bool:=((gt (places d) i).net==k)&&!(gt (places d) i).drives
def sinksL (d:qd) (k:Int) (j:Nat):List Int:=((List.range j).filter (snkQ d k)).map fun (i:Nat)=>(i:Int)
def snkN (d:qd) (k:Int):Nat:=cntP (snkQ d k) (places d).length
theorem qiu {d:qd} {k:Int} {j:Nat}:sinksL d k (j+1)=sinksL d k j++(bif snkQ d k j then [(j:Int)] else []):=by
 unfold sinksL
 rw [List.range_succ,List.filter_append,jM]
 congr 1
 cases h:snkQ d k j<;>simp [h]
theorem qh1 {d:qd} {k:Int} {j:Nat}:(sinksL d k j).length=cntP (snkQ d k) j:=by
 induction j with
 | zero=>rfl
 | succ j ih =>
  rw [qiu,je,ih]
  show _=cntP (snkQ d k) j+_
  congr 1
  cases snkQ d k j<;>rfl
theorem qoh {α β:Type} [Inhabited α] [Inhabited β] {xs:List α} {g:α→β} {j:Nat} (h:j<xs.length):gt (xs.map g) j=g (gt xs j):=by
 rw [qeZ (by simpa using h),qeZ h];simp
theorem qme {d:qd} {k:Int} (h:smallD d):Ev (fun n=>qfB n d k) (sinksL d k (places d).length):=by
 have hl:=qbL h
 have hL:Ev (fun n=>qbZ k ((places d).map toSp) n ([]:List Int) 0) (sinksL d k (places d).length,((places d).length:Int)):=by
  refine loopF (Lf:=qbZ k ((places d).map toSp)) (S:=fun j=>sinksL d k j) (len:=(places d).length) (fun n=>?_) (fun j hj X hX=>?_)
  ·simp only [qbZ,ju,qk (jb _),cond_false]
  ·have hj':j<((places d).map toSp).length:=by simpa using hj
   have hc:(sinksL d k j).length+[(j:Int)].length≤2147483648:=by
    rw [qh1]
    have:cntP (snkQ d k) j≤j:=qe1
    simp;omega
   simp only [qbZ,qj hj',cond_true,qA hj',qoh hj,ja,wS j]
   rw [show ∀ p:Tplace,(toSp p).net=p.net from fun _=>rfl,show ∀ p:Tplace,(toSp p).drives=p.drives from fun _=>rfl]
   refine Ev.bind (b:=snkQ d k j) (Ev.andP fun _=>.done) ?_
   rw [qiu] at hX
   cases hq:snkQ d k j
   ·rw [hq] at hX
    simp only [cond_false,List.append_nil] at hX ⊢
    exact hX
   ·rw [hq] at hX
    simp only [cond_true,qcE hc,ja] at hX ⊢
    exact hX
 unfold qfB
 exact Ev.bind (qg6 h) (Ev.bind hL .done)
theorem qle {l:qp} {d:qd} (h:designB l d=true) {i:Nat} (hi:i<(places d).length):0≤(gt (places d) i).net∧(gt (places d) i).net<d.Aj.length:=by
 unfold designB at h
 simp only [jc] at h
 obtain ⟨_,hI,hP,_⟩:=h
 rw [qhk,qai] at hI hP
 have hm:gt (places d) i ∈ places d:=by rw [qeZ hi];exact jp hi
 generalize gt (places d) i=p at hm
 unfold places at hm
 rcases List.mem_append.1 hm with hm|hm
 ·unfold plI at hm
  obtain ⟨i,hi,hm⟩:=List.mem_flatMap.1 hm
  unfold plX at hm
  obtain ⟨k,hk,rfl⟩:=List.mem_map.1 hm
  have:=hI i (List.mem_range.1 hi)
  unfold instB at this
  simp only [jc] at this
  have h3:=this.2.2
  rw [qf3 (d:=0),qai] at h3
  have h4:=h3 k (List.mem_range.1 hk)
  unfold netB at h4
  rw [qa6] at h4
  show 0≤at0 _ _∧at0 _ _<_
  unfold at0
  omega
 ·unfold plP at hm
  obtain ⟨i,hi,rfl⟩:=List.mem_map.1 hm
  have:=hP i (List.mem_range.1 hi)
  unfold portB netB at this
  simp only [jc,qa6] at this
  show 0≤(gt d.Ah i).Bx∧(gt d.Ah i).Bx<_
  omega
def blockB (b:qe):Bool:=(designB b.Au b.Ab&&((b.Ac.length:Int)==(b.Ab.Aj.length:Int)))&&allN (fun j=>wireB (gt b.Ac j) (snkN b.Ab (j:Int))) b.Ac.length
theorem qsM {b:qe} (h:qkX b):Ev (fun n=>qhr n b) (blockB b):=by
 have hwl:=h.Ac.len
 unfold qhr blockB
 refine Ev.guardB (Ev.or (qrQ h.Au h.Ab) fun _=>.done) fun hb=>?_
 rw [jc,beq_iff_eq] at hb
 obtain ⟨hd,hw⟩:=hb
 have hs:=qag hd
 have hl:=qbL hs
 have hn:=hs.nn
 rw [qmo (m:=b.Ac.length) (by omega)]
 simp only [ja]
 have hL1:Ev (fun n=>qcx (places b.Ab) n (vecC (fun _=>0) b.Ac.length) 0) (vecC (fun k=>snkN b.Ab (k:Int)) b.Ac.length,((places b.Ab).length:Int)):=by
  refine loopF (Lf:=qcx (places b.Ab)) (S:=fun j=>vecC (fun k=>cntP (snkQ b.Ab (k:Int)) j) b.Ac.length) (len:=(places b.Ab).length) (fun n=>?_) (fun j hj X hX=>?_)
  ·simp only [qcx,qk (jb _),cond_false];rfl
  ·simp only [qcx,qj hj,cond_true,qA hj,ja,wS j]
   obtain ⟨n0,n1⟩:=qle hd hj
   cases h1:(gt (places b.Ab) j).drives
   ·have hc:cntP (snkQ b.Ab (((gt (places b.Ab) j).net.toNat:Nat):Int)) j≤j:=qe1
    obtain ⟨e1,e2⟩:=qkW (c:=fun k=>cntP (snkQ b.Ab (k:Int)) j) (c':=fun k=>cntP (snkQ b.Ab (k:Int)) (j+1)) (x:=(gt (places b.Ab) j).net) (m:=b.Ac.length) n0 (by omega) (by show cntP _ _<_;omega) (fun k _=>by
     show cntP _ j+(bif snkQ b.Ab (k:Int) j then 1 else 0)=_
     unfold snkQ
     rw [h1,Bool.not_false,Bool.and_true])
    simp only [Bool.not_false,cond_true,ja,e1,e2]
    exact hX
   ·have:vecC (fun k=>cntP (snkQ b.Ab (k:Int)) (j+1)) b.Ac.length=vecC (fun k=>cntP (snkQ b.Ab (k:Int)) j) b.Ac.length:=by
     refine qjG (fun k _=>?_)
     show cntP _ j+(bif snkQ b.Ab (k:Int) j then 1 else 0)=_
     unfold snkQ
     rw [h1,jV,Bool.and_false];rfl
    rw [this] at hX
    exact hX
 have hL2:Ev (fun n=>qd9 b (vecC (fun k=>snkN b.Ab (k:Int)) b.Ac.length) n 0) (bif allN (fun j=>wireB (gt b.Ac j) (snkN b.Ab (j:Int))) b.Ac.length then .nxt (b.Ac.length:Int) else .ret false):=by
  refine qdU ?_ (fun j hj X hX=>Ev.succ ?_)
  ·exact Ev.succ (by simp only [qd9,qk (jb _),cond_false];exact .done)
  ·simp only [qd9,qj hj,cond_true,qA hj,qjR hj,ja,wS j]
   exact Ev.chk1 (qtr (qlO h.Ac hj)) fun _=>hX
 refine Ev.bind (qmr hs) (Ev.bind hL1 (Ev.bind hL2 ?_))
 cases allN (fun j=>wireB (gt b.Ac j) (snkN b.Ab (j:Int))) b.Ac.length<;>exact .done
theorem qon {b:qe} (h:qkX b):Ev (fun n=>qge n b) (blockB b):=by
 have hwl:=h.Ac.len
 unfold qge blockB
 refine Ev.guardB (Ev.or (qqP h.Au h.Ab) fun _=>.done) fun hb=>?_
 rw [jc] at hb
 have hs:=qag hb.1
 have hL:Ev (fun n=>qd5 b n 0) (bif allN (fun j=>wireB (gt b.Ac j) (snkN b.Ab (j:Int))) b.Ac.length then .nxt (b.Ac.length:Int) else .ret false):=by
  refine qdU ?_ (fun j hj X hX=>Ev.succ ?_)
  ·exact Ev.succ (by simp only [qd5,qk (jb _),cond_false];exact .done)
  ·simp only [qd5,qj hj,cond_true,qA hj,ja,wS j]
   refine Ev.bind (qme hs) ?_
   rw [qh1]
   exact Ev.chk1 (qsz (qlO h.Ac hj)) fun _=>hX
 refine Ev.bind hL ?_
 cases allN (fun j=>wireB (gt b.Ac j) (snkN b.Ab (j:Int))) b.Ac.length<;>exact .done
end Go.Fw


namespace Go.Fw
open Go
set_option maxRecDepth 100000
def off (d:qd) (i:Nat):Nat:=(plI d i).length
def place1 (d:qd) (i k:Nat):Tplace:=⟨(i:Int),(k:Int),at0 (gt d.Aa i).Aj k,decide (k+1=(gt d.Aa i).Aj.length)⟩
def place2 (d:qd) (i:Nat):Tplace:=⟨-1,(i:Int),(gt d.Ah i).Bx,(gt d.Ah i).Bv==1⟩
theorem qjO {d:qd} {i:Nat}:off d (i+1)=off d i+(gt d.Aa i).Aj.length:=by
 unfold off;rw [qlT,je,qo7]
theorem qsK {d:qd} {i j:Nat} (h:i≤j):off d i≤off d j:=by
 induction j with
 | zero =>
  obtain rfl:i=0:=by omega
  exact jb _
 | succ j ih =>
  rcases Nat.lt_or_eq_of_le h with h|rfl
  ·rw [qjO];have:=ih (by omega);omega
  ·exact jb _
theorem qf9 {d:qd}:(places d).length=off d d.Aa.length+d.Ah.length:=by
 unfold places off;rw [je,qo0]
theorem qwO {d:qd} {n i k:Nat} (hi:i<n) (hk:k<(gt d.Aa i).Aj.length):off d i+k<off d n∧gt (plI d n) (off d i+k)=place1 d i k:=by
 induction n with
 | zero=>omega
 | succ n ih =>
  rw [qlT,qkY]
  rcases Nat.lt_succ_iff_lt_or_eq.1 hi with h|rfl
  ·obtain ⟨h1,h2⟩:=ih h
   refine ⟨by rw [qjO];omega,?_⟩
   rw [if_pos (show off d i+k<(plI d n).length from h1),h2]
  ·refine ⟨by rw [qjO];omega,?_⟩
   rw [if_neg (by unfold off;omega),show off d i+k-(plI d i).length=k by unfold off;omega]
   exact qpk hk
theorem qjp {d:qd} {i k:Nat} (hi:i<d.Aa.length) (hk:k<(gt d.Aa i).Aj.length):off d i+k<(places d).length∧gt (places d) (off d i+k)=place1 d i k:=by
 obtain ⟨h1,h2⟩:=qwO hi hk
 refine ⟨by rw [qf9];omega,?_⟩
 unfold places
 rw [qkY,if_pos (show off d i+k<(plI d d.Aa.length).length from h1),h2]
theorem qqq {d:qd} {i:Nat} (hi:i<d.Ah.length):off d d.Aa.length+i<(places d).length∧gt (places d) (off d d.Aa.length+i)=place2 d i:=by
 refine ⟨by rw [qf9];omega,?_⟩
 unfold places
 rw [qkY,if_neg (by unfold off;omega),show off d d.Aa.length+i-(plI d d.Aa.length).length=i by unfold off;omega]
 exact qpk hi
theorem quc {d:qd} {n j:Nat} (hj:j<off d n):∃ i k,i<n∧k<(gt d.Aa i).Aj.length∧j=off d i+k:=by
 induction n with
 | zero=>exact absurd hj (Nat.not_lt_zero _)
 | succ n ih =>
  by_cases h:j<off d n
  ·obtain ⟨i,k,h1,h2,h3⟩:=ih h
   exact ⟨i,k,by omega,h2,h3⟩
  ·rw [qjO] at hj
   exact ⟨n,j-off d n,by omega,by omega,by omega⟩
theorem qkh {d:qd} {j:Nat} (hj:j<(places d).length) :
  (∃ i k,i<d.Aa.length∧k<(gt d.Aa i).Aj.length∧j=off d i+k∧gt (places d) j=place1 d i k) ∨
  (∃ i,i<d.Ah.length∧j=off d d.Aa.length+i∧gt (places d) j=place2 d i):=by
 rw [qf9] at hj
 by_cases h:j<off d d.Aa.length
 ·obtain ⟨i,k,h1,h2,rfl⟩:=quc h
  exact .inl ⟨i,k,h1,h2,rfl,(qjp h1 h2).2⟩
 ·refine .inr ⟨j-off d d.Aa.length,by omega,by omega,?_⟩
  have:=(qqq (d:=d) (i:=j-off d d.Aa.length) (by omega)).2
  rwa [show off d d.Aa.length+(j-off d d.Aa.length)=j by omega] at this
def drvQ (d:qd) (k:Int) (j:Nat):Bool:=((gt (places d) j).net==k)&&(gt (places d) j).drives
theorem qrB {q:Nat→Bool} {m n:Nat}:cntP q (m+n)=cntP q m+cntP (fun j=>q (m+j)) n:=by
 induction n with
 | zero=>rfl
 | succ n ih =>
  show cntP q (m+n)+(bif q (m+n) then 1 else 0)=cntP q m+(cntP (fun j=>q (m+j)) n+(bif q (m+n) then 1 else 0))
  rw [ih];omega
theorem qtT {q:Nat→Bool} {n:Nat} {b:Bool} (h:1≤n) (h1:∀ j,j+1<n→q j=false) (h2:q (n-1)=b):cntP q n=bif b then 1 else 0:=by
 obtain ⟨m,rfl⟩:∃ m,n=m+1:=⟨n-1,by omega⟩
 show cntP q m+(bif q m then 1 else 0)=_
 rw [qmp.2 (fun j hj=>h1 j (by omega)),show m=m+1-1 by omega,h2,jT]
theorem qsG {d:qd} {k:Nat} (hs:smallD d):cntP (drvQ d (k:Int)) (places d).length=drvI d k d.Aa.length+drvP d k d.Ah.length:=by
 rw [qf9,qrB]
 congr 1
 ·have:∀ n,n≤d.Aa.length→cntP (drvQ d (k:Int)) (off d n)=drvI d k n:=by
   intro n
   induction n with
   | zero=>intro _;rfl
   | succ n ih =>
    intro hn
    rw [qjO,qrB,ih (by omega),qnJ]
    congr 1
    have h2:=(hs.nx n (by omega)).1
    refine qtT (by omega) (fun j hj=>?_) ?_
    ·show drvQ d _ (off d n+j)=false
     unfold drvQ
     rw [(qjp (by omega) (by omega)).2]
     unfold place1
     simp;omega
    ·show drvQ d _ (off d n+_)=_
     unfold drvQ
     rw [(qjp (by omega) (by omega)).2]
     unfold place1 lastN
     simp;omega
  exact this _ (jb _)
 ·refine qpm (fun j hj=>?_)
  show drvQ d _ (off d _+j)=_
  unfold drvQ
  rw [(qqq hj).2]
  unfold place2
  exact Bool.and_comm _ _
theorem qtg {l:qp} {d:qd} (h:designB l d=true) {k:Nat} (hk:k<d.Aj.length):cntP (drvQ d (k:Int)) (places d).length=1:=by
 rw [qsG (qag h)]
 unfold designB drvB at h
 simp only [jc] at h
 have:=qai.1 h.2.2.2 k hk
 rw [beq_iff_eq] at this
 omega
theorem qrs {l:qp} {d:qd} (h:designB l d=true) {i j:Nat} (hi:i<(places d).length) (hj:j<(places d).length) (he:(gt (places d) i).net=(gt (places d) j).net) (h1:(gt (places d) i).drives=true) (h2:(gt (places d) j).drives=true):i=j:=by
 obtain ⟨n0,n1⟩:=qle h hi
 have e:=qgc n0
 have:=qtg h (k:=(gt (places d) i).net.toNat) (by omega)
 refine qsb (Nat.le_of_eq this) hi hj ?_ ?_
 ·unfold drvQ;rw [←e,h1];simp
 ·unfold drvQ;rw [←e,h2,he];simp
theorem qwP {l:qp} {d:qd} (h:designB l d=true) {k:Int} (h0:0≤k) (h1:k<d.Aj.length):∃ j,j<(places d).length∧(gt (places d) j).net=k∧(gt (places d) j).drives=true:=by
 have e:=qgc h0
 have:=qtg h (k:=k.toNat) (by omega)
 have hp:decide (0<cntP (drvQ d ((k.toNat:Nat):Int)) (places d).length)=true:=by rw [this];rfl
 rw [qrG,jD,qlo] at hp
 obtain ⟨j,hj,hq⟩:=hp
 rw [Bool.not_eq_false',←e] at hq
 unfold drvQ at hq
 simp only [jc,beq_iff_eq] at hq
 exact ⟨j,hj,hq.1,hq.2⟩
def cellAt (b:qe) (i:Int):qz:=gt b.Au.Ap (gt b.Ab.Aa i.toNat).Bs.toNat
theorem qgg {l:qp} {d:qd} (h:designB l d=true) {i:Nat} (hi:i<d.Aa.length) :
  (0≤(gt d.Aa i).Bs∧(gt d.Aa i).Bs<l.Ap.length)∧(gt d.Aa i).Aj.length=(gt l.Ap (gt d.Aa i).Bs.toNat).Az.length∧cellB (gt l.Ap (gt d.Aa i).Bs.toNat)=true:=by
 unfold designB libB at h
 simp only [jc] at h
 obtain ⟨⟨⟨hc,_⟩,_⟩,hI,_⟩:=h
 rw [qhk,qai] at hI hc
 have:=hI i hi
 unfold instB at this
 simp only [jc,qa6,beq_iff_eq] at this
 exact ⟨⟨this.1.1,by omega⟩,by omega,hc _ (by omega)⟩
theorem qlV {c:qz} (h:cellB c=true) {j:Nat} (hj:j<c.Am.length):(1≤(gt c.Am j).Ba∧(gt c.Am j).Ba≤5)∧(0≤(gt c.Am j).Bi∧(gt c.Am j).Bi<(c.Az.length:Int)-1)∧(0≤(gt c.Am j).To∧(gt c.Am j).To≤(c.Az.length:Int)-1)∧arcS c.Az (gt c.Am j)=true:=by
 unfold cellB at h
 simp only [jc] at h
 obtain ⟨_,hp,⟨ha,_⟩,_,_,hk⟩:=h
 have:=qai.1 ha j hj
 rw [jc,qvn hp (qqi hk)] at this
 have h1:=this.1
 refine ⟨qqK h1,?_⟩
 have h2:=h1
 unfold arcS at h2
 simp only [jc,qa6] at h2
 refine ⟨⟨h2.1.1.1,by omega⟩,h2.1.2,h1⟩
theorem qm0 {c:qz} (h:cellB c=true):c.Am.length≤8:=by
 unfold cellB at h
 simp only [jc,decide_eq_true_eq] at h
 exact h.2.2.1.2
theorem qaC {b:qe} (h:blockB b=true):designB b.Au b.Ab=true:=by
 unfold blockB at h;simp only [jc] at h;exact h.1.1
end Go.Fw
