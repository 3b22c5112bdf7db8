/- By a program of mine (gen.py): for each function a plain function and the proof that the code computes it. -/
import Derived.Test.YtopijfgpbojkoaaGreatDoorA2
import Derived.Test.YtopijfgpbojkoaaGreatDoorFw33
open Option renaming bind_some → ja
open Nat renaming le_refl → jb, mul_le_mul_right → jj, le_of_ble_eq_true → jq, lt_of_lt_of_le → js, succ_mul → jE, zero_add → jU
open Bool renaming and_eq_true → jc, eq_iff_iff → jh, true_and → jw, not_eq_true' → jD, not_true → jW
open Go.Result renaming andThen_ok → jd
open List renaming length_append → je, getElem?_eq_getElem → jf, length_singleton → jk, append_assoc → jm, mem_cons_of_mem → jo, getElem_mem → jp, getElem?_append_left → jr, mem_cons_self → jt, take_succ_eq_append_getElem → ju, length_map → jv, getElem?_take → jx, getElem?_append_right → jy, getD_eq_getElem?_getD → jz, getElem?_toArray → jA, take_length → jB, eq_nil_of_length_eq_zero → jC, not_mem_nil → jF, length_replicate → jG, size_toArray → jH, all_eq_true → jL, drop_eq_getElem_cons → jM, getElem_of_mem → jN, map_append → jO, mem_cons → jQ, length_take → jS, ext_getElem → jT
open Go.Sem renaming run_bind → jg, run_pure → ji
open Int renaming toNat_natCast → jn, tdiv_eq_ediv_of_nonneg → jJ, mul_nonneg → jK, mul_assoc → jP, mul_le_mul → jR, le_refl → jV
open Array renaming getElem?_append_left → jI

namespace Go.Fw
open Go Go.Proofs
open Go.RowKit (Below)
set_option maxRecDepth 100000
set_option maxHeartbeats 1600000
variable {n:Nat} {w:World} {cs1 cs2 cs3 cs4 cs5 cs6 cs7 cs8 cs9:List Value}
def qc6 (a_0:qA) (i1:Int) (y1:qN):Nat→Int→Option (Flow Bool Int)
 | 0,_=>none
 | n+1,i2 =>
  bif decide (i2<i1) then
   (idx a_0.Ar i2).bind fun y2 =>
   bif (y2.Be==y1.Be) then
    (idx a_0.Ar i2).bind fun y3 =>
    bif (y3.Bk==y1.Bk) then
     (idx a_0.Ar i2).bind fun y4 =>
     bif (y4.To==y1.To) then some (.ret false) else
     qc6 a_0 i1 y1 n (W64 (i2+1))
    else
     qc6 a_0 i1 y1 n (W64 (i2+1))
   else
    qc6 a_0 i1 y1 n (W64 (i2+1))
  else
   some (.nxt i2)
def qe4 (a_0:qA):Nat→Int→Option (Flow Bool Int)
 | 0,_=>none
 | n+1,i3 =>
  bif decide (i3<(a_0.Br.length:Int)) then
   (idx a_0.Br i3).bind fun y5 =>
   (qap n y5 0 1).bind fun r6 =>
   bif (!r6) then some (.ret false) else
   qe4 a_0 n (W64 (i3+1))
  else
   some (.nxt i3)
def qe5 (a_0:qA):Nat→Int→Option (Flow Bool Int)
 | 0,_=>none
 | n+1,i1 =>
  bif decide (i1<(a_0.Ar.length:Int)) then
   (idx a_0.Ar i1).bind fun y1 =>
   (qkL n a_0 y1).bind fun r4 =>
   bif (!r4) then some (.ret false) else
   (qc6 a_0 i1 y1 n 0).bind fun o=>match o with
   | .ret r=>some (.ret r)
   | .nxt _ =>
    qe5 a_0 n (W64 (i1+1))
  else
   some (.nxt i1)
def qkO (n:Nat) (a_0:qA):Option Bool :=
 (qjy n a_0).bind fun o=>match o with
  | (r2,r3) =>
   (
    bif (!r3) then some true else
    (qfq n a_0.Bb).bind fun r7 =>
    bif (!r7) then some true else
    bif decide ((a_0.Ar.length:Int) > 8) then some true else
    (qap n a_0.Ca 0 100000).bind fun r8 =>
    bif (!r8) then some true else
    (qap n a_0.Bu 0 100000).bind fun r9 =>
    some (!r9)).bind fun b1 =>
   bif b1 then some false else
   (qe5 a_0 n 0).bind fun o=>match o with
   | .ret r=>some r
   | .nxt _ =>
    (qiG n a_0).bind fun r5 =>
    bif (a_0.Be==1) then
     (qe4 a_0 n 0).bind fun o=>match o with
     | .ret r=>some r
     | .nxt _ =>
      bif (r2==0) then
       (shlS 1 (IntKind.wrap .u64 (W64 ((a_0.Bd.length:Int)-1)))).bind fun y6 =>
       some ((a_0.Br.length:Int)==y6)
      else
       some false
    else
     bif (a_0.Be==2) then
      bif (r2==1) then
       (idx r5 1).bind fun y7 =>
       bif (y7==0) then
        (idx r5 2).bind fun y8 =>
        (idx r5 3).bind fun y9 =>
        bif (!((decide (y8 > 0))==(decide (y9 > 0)))) then some ((a_0.Br.length:Int)==0) else
        some false
       else
        some false
      else
       some false
     else
      bif (a_0.Be==3) then
       bif (r2==1) then
        (idx r5 1).bind fun y10 =>
        bif decide (y10 > 0) then
         (idx r5 2).bind fun y11 =>
         bif decide (y11 > 0) then
          (idx r5 3).bind fun y12 =>
          bif (y12==0) then some ((a_0.Br.length:Int)==0) else
          some false
         else
          some false
        else
         some false
       else
        some false
      else
       some false
theorem qqb {a_0:qA} (ha1:GoT.R w (old w) a_0 cs1) {r:Bool} (hF:qkO n a_0=some r):RetV Tryz.prog 194 [GoT.v qA cs1] w r:=by
 obtain ⟨p1,k1,p2,k2,p3,k3,rfl,s1,s2,s3⟩:=qaa ha1
 refine zV 182 Tryz.func194 rfl fun h=>zSR (qt h rfl rfl fun w1 bb1 h=>X1 5 0 h rfl ?_)
 obtain ⟨r1,hr1,hF⟩:=qc hF
 obtain ⟨r2,r3⟩:=r1
 refine qbv (r2,r3) h (cB 227 rfl) (qpo (h.old ha1) hr1) rfl rfl rfl rfl fun w2 S1 us1 hv1 hr2=>?_
 obtain ⟨S2,us2,rfl,hv2,hr3⟩:=hv1.consI hr2
 obtain ⟨rfl,h⟩:=hv2.lastB hr3
 refine X0 8 rfl ?_
 obtain ⟨KF1,hKF1,o4,hF,hK4⟩:=bindE hF
 refine qbk (fun e w'=>∃ (b1:Bool),KF1 b1=some r∧e=[(1,.pointer (some ⟨bb1,0,none⟩)),(3,.int .i64 r2),(40,.bool b1)]∧SH w w' [Ch.box bb1 (qdF a_0 p1 p2 p3 k1 k2 k3) 166]) ?_ ?_
 ·refine X0 4 rfl (qi (t:=17) hF rfl ?_ ?_)<;>intro hF
  ·refine X0 24 rfl ?_
   obtain rfl:=qb hF
   exact rG ⟨_,hK4,rfl,h⟩ rfl
  refine X1 5 0 h rfl (zcB h hF qhe rfl fun r7 w18 h hF=>X0 4 rfl (qi (t:=23) hF rfl ?_ ?_))<;>intro hF
  ·refine X0 18 rfl ?_
   obtain rfl:=qb hF
   exact rG ⟨_,hK4,rfl,h⟩ rfl
  refine X1 10 0 h rfl (qi (t:=29) hF rfl ?_ ?_)<;>intro hF
  ·refine X0 12 rfl ?_
   obtain rfl:=qb hF
   exact rG ⟨_,hK4,rfl,h⟩ rfl
  refine X1 5 0 h rfl (zcB h hF qab rfl fun r8 w19 h hF=>X0 4 rfl (qi (t:=35) hF rfl ?_ ?_))<;>intro hF
  ·refine X0 6 rfl ?_
   obtain rfl:=qb hF
   exact rG ⟨_,hK4,rfl,h⟩ rfl
  refine X1 5 0 h rfl (zcB h hF qab rfl fun r9 w20 h hF=>X0 4 rfl ?_)
  obtain rfl:=qb hF
  exact rG ⟨_,hK4,rfl,h⟩ rfl
 rintro e4 w21 ⟨b1,hF,rfl,h⟩
 subst hKF1
 refine qg rfl hF ?_ ?_<;>intro hF
 ·exact X0 4 rfl (rb h hF rfl)
 refine X0 6 rfl ?_
 obtain ⟨o1,hF,hK1⟩:=qc hF
 refine ql (rL (fun m e w'=>∃ (i1:Int),qe5 a_0 m i1=some o1∧e=[(1,.pointer (some ⟨bb1,0,none⟩)),(3,.int .i64 r2),(5,.int .i64 i1)]∧SH w w' [Ch.box bb1 (qdF a_0 p1 p2 p3 k1 k2 k3) 166]) n ⟨_,hF,rfl,h⟩ rfl ?_)
 rintro m1 e1 w3 ⟨i1,hF,rfl,h⟩
 rcases m1 with _|m1
 ·cases hF
 refine X1 9 0 h rfl (qg rfl hF ?_ ?_)<;>intro hF
 ·refine X1 8 0 h rfl ?_
  obtain ⟨y1,hy1,hF,he1,b2,_,q1,cs2,hp1,hq1,hr5,hc3⟩:=s2.ix hF
  obtain ⟨p4,k4,p5,k5,rfl,s4,s5⟩:=qac hr5
  refine zxe hp1 hq1 he1 rfl (zc 0 (hc3.below h.below) rfl (qm qa h rfl rfl rfl fun w4 bb2 h=>zs 0 h rfl fun w5 h=>X2 6 1 0 h rfl (zcB h hF (qpI (h.old ha1) (qeY y1 (h.oldS s4) (h.oldS s5))) rfl fun r4 w6 h hF=>X0 2 rfl (qg rfl hF ?_ ?_))))<;>intro hF
  ·refine X0 4 rfl ?_
   obtain rfl:=qb hF;replace hF:=hK1
   exact rb h hF rfl
  refine X0 5 rfl ?_
  obtain ⟨o2,hF,hK2⟩:=qc hF
  refine ql (rL (fun m e w'=>∃ (i2:Int),qc6 a_0 i1 y1 m i2=some o2∧e=[(1,.pointer (some ⟨bb1,0,none⟩)),(3,.int .i64 r2),(5,.int .i64 i1),(6,.pointer (some ⟨bb2,0,none⟩)),(7,.int .i64 i2)]∧SH w w' [Ch.box bb2 (qgs y1 p4 p5 k4 k5) 171,Ch.box bb1 (qdF a_0 p1 p2 p3 k1 k2 k3) 166]) m1 ⟨_,hF,rfl,h⟩ rfl ?_)
  rintro m2 e2 w7 ⟨i2,hF,rfl,h⟩
  rcases m2 with _|m2
  ·cases hF
  refine X0 7 rfl (qg rfl hF ?_ ?_)<;>intro hF
  ·refine X0 4 rfl (rD (Y1 2 1 h rfl ?_))
   refine zd1 rfl ?_
   obtain ⟨y2,hy2,hF,he2,b3,_,q2,cs3,hp2,hq2,hr7,hc6⟩:=s2.ix hF
   obtain ⟨p6,k6,p7,k7,rfl,s6,s7⟩:=qac hr7
   refine zdxe hp2 hq2 he2 rfl (zd1 rfl (zdc 0 (hc6.below h.below) rfl (Y1 2 0 h rfl ?_)))
   refine zd2 rfl (qaI (t:=71) hF rfl ?_ ?_)<;>intro hF
   ·refine Y1 4 1 h rfl ?_
    refine Y0 3 rfl ?_
    obtain ⟨y3,hy3,hF,he3,b4,_,q3,cs4,hp3,hq3,hr8,hc7⟩:=s2.ix hF
    obtain ⟨p8,k8,p9,k9,rfl,s8,s9⟩:=qac hr8
    refine zdxe hp3 hq3 he3 rfl (Y0 3 rfl (zdc 1 (hc7.below h.below) rfl (Y1 4 0 h rfl ?_)))
    refine Y0 4 rfl (qaI (t:=82) hF rfl ?_ ?_)<;>intro hF
    ·refine Y1 4 1 h rfl ?_
     refine Y0 3 rfl ?_
     obtain ⟨y4,hy4,hF,he4,b5,_,q4,cs5,hp4,hq4,hr9,hc8⟩:=s2.ix hF
     obtain ⟨p10,k10,p11,k11,rfl,s10,s11⟩:=qac hr9
     refine zdxe hp4 hq4 he4 rfl (Y0 3 rfl (zdc 2 (hc8.below h.below) rfl (Y1 4 0 h rfl ?_)))
     refine Y0 3 rfl (dN h fun w8 h=>qg rfl hF ?_ ?_)<;>intro hF
     ·refine X0 4 rfl ?_
      obtain rfl:=qb hF;replace hF:=hK2
      obtain rfl:=qb hF;replace hF:=hK1
      exact rb h hF rfl
     exact X0 7 rfl (rK ⟨_,hF,rfl,h⟩ rfl)
    exact Y0 10 rfl (dN h fun w9 h=>qbR rfl rfl (X0 7 rfl (rK ⟨_,hF,rfl,h⟩ rfl)))
   exact Y0 21 rfl (dN h fun w10 h=>qbR rfl rfl (X0 7 rfl (rK ⟨_,hF,rfl,h⟩ rfl)))
  refine qr rfl ?_
  obtain rfl:=qb hF;replace hF:=hK2
  refine X0 6 rfl ?_
  replace h:=h.pick [1] rfl
  exact rK ⟨_,hF,rfl,h⟩ rfl
 refine qr rfl ?_
 obtain rfl:=qb hF;replace hF:=hK1
 refine X1 3 0 h rfl (zcL h hF (qn8 (h.old ha1)) rfl fun r5 w11 S4 p12 k12 h hF=>X1 14 1 h rfl (qg rfl hF ?_ ?_))<;>intro hF
 ·refine X0 5 rfl ?_
  obtain ⟨o3,hF,hK3⟩:=qc hF
  refine ql ?_
  replace h:=h.pick [1] rfl
  refine rL (fun m e w'=>∃ (i3:Int),qe4 a_0 m i3=some o3∧e=[(1,.pointer (some ⟨bb1,0,none⟩)),(3,.int .i64 r2),(9,.int .i64 i3)]∧SH w w' [Ch.box bb1 (qdF a_0 p1 p2 p3 k1 k2 k3) 166]) n ⟨_,hF,rfl,h⟩ rfl ?_
  rintro m3 e3 w12 ⟨i3,hF,rfl,h⟩
  rcases m3 with _|m3
  ·cases hF
  refine X1 9 0 h rfl (qg rfl hF ?_ ?_)<;>intro hF
  ·refine X1 8 0 h rfl ?_
   obtain ⟨y5,hy5,hF,he5,b6,_,q5,cs6,hp5,hq5,rfl,hc12⟩:=s3.ix hF
   refine zxe hp5 hq5 he5 rfl (zc 0 (hc12.below h.below) rfl (zcB h hF qab rfl fun r6 w13 h hF=>X0 2 rfl (qg rfl hF ?_ ?_)))<;>intro hF
   ·refine X0 4 rfl ?_
    obtain rfl:=qb hF;replace hF:=hK3
    exact rb h hF rfl
   exact X0 7 rfl (rK ⟨_,hF,rfl,h⟩ rfl)
  refine qr rfl ?_
  obtain rfl:=qb hF;replace hF:=hK3
  refine X0 5 rfl (qi (t:=115) hF rfl ?_ ?_)<;>intro hF
  ·refine X2 17 0 0 h rfl ?_
   obtain ⟨y6,hx1,hF⟩:=qc hF
   obtain ⟨g1,hx1⟩:=qq3 hx1
   refine r_v (qxm g1 rfl rfl) rfl ?_
   rw [hx1]
   exact X0 5 rfl (rb h hF rfl)
  exact X0 13 rfl (rb h hF rfl)
 refine X0 5 rfl (qg rfl hF ?_ ?_)<;>intro hF
 ·refine qcL (rD (zd3 rfl (qaI (t:=131) hF rfl ?_ ?_)))<;>intro hF
  ·refine Y0 3 rfl ?_
   obtain ⟨y7,hy6,hF,he6,b7,_,q6,cs7,hp6,hq6,rfl,hc15⟩:=(h.sl 0 rfl).1.ix hF
   refine zdx hp6 hq6 ⟨he6.1,qT he6.2.1 (h.sl 0 rfl).2⟩ rfl (Y0 1 rfl (zdc 0 hc15 rfl (Y0 4 rfl (qaI (t:=137) hF rfl ?_ ?_))))<;>intro hF
   ·refine Y0 3 rfl ?_
    obtain ⟨y8,hy7,hF,he7,b8,_,q7,cs8,hp7,hq7,rfl,hc16⟩:=(h.sl 0 rfl).1.ix hF
    refine zdx hp7 hq7 ⟨he7.1,qT he7.2.1 (h.sl 0 rfl).2⟩ rfl (Y0 1 rfl (zdc 0 hc16 rfl (Y0 5 rfl ?_)))
    obtain ⟨y9,hy8,hF,he8,b9,_,q8,cs9,hp8,hq8,rfl,hc17⟩:=(h.sl 0 rfl).1.ix hF
    refine zdx hp8 hq8 ⟨he8.1,qT he8.2.1 (h.sl 0 rfl).2⟩ rfl (Y0 1 rfl (zdc 0 hc17 rfl (Y0 6 rfl (qaI (t:=148) hF rfl ?_ ?_))))<;>intro hF
    ·refine Y1 4 1 h rfl ?_
     exact Y0 6 rfl (dN h fun w14 h=>rb h hF rfl)
    exact Y0 6 rfl (dN h fun w15 h=>rb h hF rfl)
   exact Y0 17 rfl (dN h fun w16 h=>rb h hF rfl)
  exact Y0 23 rfl (dN h fun w17 h=>rb h hF rfl)
 refine X0 5 rfl (qg rfl hF ?_ ?_)<;>intro hF
 ·refine X0 5 rfl (qi (t:=158) hF rfl ?_ ?_)<;>intro hF
  ·refine X0 3 rfl ?_
   obtain ⟨y10,hy9,hF,he9,b10,_,q9,cs10,hp9,hq9,rfl,hc19⟩:=(h.sl 0 rfl).1.ix hF
   refine zx hp9 hq9 ⟨he9.1,qT he9.2.1 (h.sl 0 rfl).2⟩ rfl (X0 1 rfl (zc 0 hc19 rfl (X0 4 rfl (qi (t:=164) hF rfl ?_ ?_))))<;>intro hF
   ·refine X0 3 rfl ?_
    obtain ⟨y11,hy10,hF,he10,b11,_,q10,cs11,hp10,hq10,rfl,hc20⟩:=(h.sl 0 rfl).1.ix hF
    refine zx hp10 hq10 ⟨he10.1,qT he10.2.1 (h.sl 0 rfl).2⟩ rfl (X0 1 rfl (zc 0 hc20 rfl (X0 4 rfl (qi (t:=170) hF rfl ?_ ?_))))<;>intro hF
    ·refine X0 3 rfl ?_
     obtain ⟨y12,hy11,hF,he11,b12,_,q11,cs12,hp11,hq11,rfl,hc21⟩:=(h.sl 0 rfl).1.ix hF
     refine zx hp11 hq11 ⟨he11.1,qT he11.2.1 (h.sl 0 rfl).2⟩ rfl (X0 1 rfl (zc 0 hc21 rfl (X0 4 rfl (qi (t:=176) hF rfl ?_ ?_))))<;>intro hF
     ·exact X1 11 1 h rfl (rb h hF rfl)
     exact X0 7 rfl (rb h hF rfl)
    exact X0 13 rfl (rb h hF rfl)
   exact X0 19 rfl (rb h hF rfl)
  exact X0 25 rfl (rb h hF rfl)
 exact X0 6 rfl (rb h hF rfl)
def qdh (l:qp) (i1:Int):Nat→Int→Option (Flow Bool Int)
 | 0,_=>none
 | n+1,i2 =>
  bif decide (i2<i1) then
   (idx l.Aq i2).bind fun y2 =>
   (idx l.Aq i1).bind fun y3 =>
   bif (y2.Bb.toList==y3.Bb.toList) then some (.ret false) else
   qdh l i1 n (W64 (i2+1))
  else
   some (.nxt i2)
def qdk (l:qp):Nat→Int→Option (Flow Bool Int)
 | 0,_=>none
 | n+1,i1 =>
  bif decide (i1<(l.Aq.length:Int)) then
   (idx l.Aq i1).bind fun y1 =>
   (qkO n y1).bind fun r1 =>
   bif (!r1) then some (.ret false) else
   (qdh l i1 n 0).bind fun o=>match o with
   | .ret r=>some (.ret r)
   | .nxt _ =>
    qdk l n (W64 (i1+1))
  else
   some (.nxt i1)
def qhB (n:Nat) (l:qp):Option Bool :=
 (qdk l n 0).bind fun o=>match o with
 | .ret r=>some r
 | .nxt _ =>
  some (decide ((l.Aq.length:Int)≤8))
theorem qnx {l:qp} (ha1:GoT.R w (old w) l cs1) {r:Bool} (hF:qhB n l=some r):RetV Tryz.prog 163 [GoT.v qp cs1] w r:=by
 obtain ⟨p1,k1,rfl,s1⟩:=qbr ha1
 refine zV 41 Tryz.func163 rfl fun h=>zSR (qt h rfl rfl fun w1 bb1 h=>X0 7 rfl ?_)
 obtain ⟨o1,hF,hK1⟩:=qc hF
 refine ql (rL (fun m e w'=>∃ (i1:Int),qdk l m i1=some o1∧e=[(1,.pointer (some ⟨bb1,0,none⟩)),(3,.int .i64 i1)]∧SH w w' [Ch.box bb1 [.slice p1 l.Aq.length k1] 43]) n ⟨_,hF,rfl,h⟩ rfl ?_)
 rintro m1 e1 w2 ⟨i1,hF,rfl,h⟩
 rcases m1 with _|m1
 ·cases hF
 refine X1 9 0 h rfl (qg rfl hF ?_ ?_)<;>intro hF
 ·refine X1 9 0 h rfl ?_
  obtain ⟨y1,hy1,hF,he1,b1,_,q1,cs2,hp1,hq1,hr1,hc2⟩:=s1.ix hF
  obtain ⟨p2,k2,p3,k3,p4,k4,rfl,s2,s3,s4⟩:=qaa hr1
  refine zxe hp1 hq1 he1 rfl (zc 0 (hc2.below h.below) rfl (zcB h hF (qqb (qjL y1 (h.oldS s2) (h.oldS s3) (h.oldS s4))) rfl fun r1 w3 h hF=>X0 2 rfl (qg rfl hF ?_ ?_)))<;>intro hF
  ·refine X0 4 rfl ?_
   obtain rfl:=qb hF;replace hF:=hK1
   exact rb h hF rfl
  refine X0 5 rfl ?_
  obtain ⟨o2,hF,hK2⟩:=qc hF
  refine ql (rL (fun m e w'=>∃ (i2:Int),qdh l i1 m i2=some o2∧e=[(1,.pointer (some ⟨bb1,0,none⟩)),(3,.int .i64 i1),(4,.int .i64 i2)]∧SH w w' [Ch.box bb1 [.slice p1 l.Aq.length k1] 43]) m1 ⟨_,hF,rfl,h⟩ rfl ?_)
  rintro m2 e2 w4 ⟨i2,hF,rfl,h⟩
  rcases m2 with _|m2
  ·cases hF
  refine X0 7 rfl (qg rfl hF ?_ ?_)<;>intro hF
  ·refine X0 4 rfl (rD (Y1 2 0 h rfl ?_))
   refine zd1 rfl ?_
   obtain ⟨y2,hy2,hF,he2,b2,_,q2,cs3,hp2,hq2,hr3,hc5⟩:=s1.ix hF
   obtain ⟨p5,k5,p6,k6,p7,k7,rfl,s5,s6,s7⟩:=qaa hr3
   refine zdxe hp2 hq2 he2 rfl (zd1 rfl (zdc 0 (hc5.below h.below) rfl (Y1 2 0 h rfl ?_)))
   refine zd1 rfl ?_
   obtain ⟨y3,hy3,hF,he3,b3,_,q3,cs4,hp3,hq3,hr4,hc6⟩:=s1.ix hF
   obtain ⟨p8,k8,p9,k9,p10,k10,rfl,s8,s9,s10⟩:=qaa hr4
   refine zdxe hp3 hq3 he3 rfl (zd1 rfl (zdc 0 (hc6.below h.below) rfl (zd1 rfl (dN h fun w5 h=>qg rfl hF ?_ ?_))))<;>intro hF
   ·refine X0 4 rfl ?_
    obtain rfl:=qb hF;replace hF:=hK2
    obtain rfl:=qb hF;replace hF:=hK1
    exact rb h hF rfl
   exact X0 7 rfl (rK ⟨_,hF,rfl,h⟩ rfl)
  refine qr rfl ?_
  obtain rfl:=qb hF;replace hF:=hK2
  exact X0 6 rfl (rK ⟨_,hF,rfl,h⟩ rfl)
 refine qr rfl ?_
 obtain rfl:=qb hF;replace hF:=hK1
 exact X1 8 0 h rfl (rb h hF rfl)
def qdQ (a_1:qd) (y1:qn):Nat→Int→Option (Flow Bool Int)
 | 0,_=>none
 | n+1,i2 =>
  bif decide (i2<(y1.Am.length:Int)) then
   (idx y1.Am i2).bind fun y2 =>
   (qap n y2 0 (W64 ((a_1.Am.length:Int)-1))).bind fun r1 =>
   bif (!r1) then some (.ret false) else
   qdQ a_1 y1 n (W64 (i2+1))
  else
   some (.nxt i2)
def qdR (a_1:qd):Nat→Int→Option (Flow Bool Int)
 | 0,_=>none
 | n+1,i3 =>
  bif decide (i3<(a_1.Aj.length:Int)) then
   (idx a_1.Aj i3).bind fun y4 =>
   (qap n y4.Bv 1 2).bind fun r3 =>
   bif (!r3) then some (.ret false) else
   (idx a_1.Aj i3).bind fun y5 =>
   (qap n y5.Bx 0 (W64 ((a_1.Am.length:Int)-1))).bind fun r4 =>
   bif (!r4) then some (.ret false) else
   qdR a_1 n (W64 (i3+1))
  else
   some (.nxt i3)
def qdV (a_0:qp) (a_1:qd):Nat→Int→Option (Flow Bool Int)
 | 0,_=>none
 | n+1,i1 =>
  bif decide (i1<(a_1.Aa.length:Int)) then
   (idx a_1.Aa i1).bind fun y1 =>
   (
    (qap n y1.Bs 0 (W64 ((a_0.Aq.length:Int)-1))).bind fun r2 =>
    bif (!r2) then some true else
    (idx a_0.Aq y1.Bs).bind fun y3 =>
    some ((y1.Am.length:Int) != (y3.Bd.length:Int))).bind fun b2 =>
   bif b2 then some (.ret false) else
   (qdQ a_1 y1 n 0).bind fun o=>match o with
   | .ret r=>some (.ret r)
   | .nxt _ =>
    qdV a_0 a_1 n (W64 (i1+1))
  else
   some (.nxt i1)
def qiL (n:Nat) (a_0:qp) (a_1:qd):Option Bool :=
 (qdV a_0 a_1 n 0).bind fun o=>match o with
 | .ret r=>some r
 | .nxt _ =>
  (qdR a_1 n 0).bind fun o=>match o with
  | .ret r=>some r
  | .nxt _ =>
   some true
theorem qoc {a_0:qp} {a_1:qd} (ha1:GoT.R w (old w) a_0 cs1) (ha2:GoT.R w (old w) a_1 cs2) {r:Bool} (hF:qiL n a_0 a_1=some r):RetV Tryz.prog 164 [GoT.v qp cs1,GoT.v qd cs2] w r:=by
 obtain ⟨p1,k1,rfl,s1⟩:=qbr ha1
 obtain ⟨p2,k2,p3,k3,p4,k4,rfl,s2,s3,s4⟩:=qar ha2
 refine zV 90 Tryz.func164 rfl fun h=>zSR (qt h rfl rfl fun w1 bb1 h=>qt h rfl rfl fun w2 bb2 h=>X1 14 0 h rfl ?_)
 obtain ⟨o1,hF,hK1⟩:=qc hF
 refine ql (rL (fun m e w'=>∃ (i1:Int),qdV a_0 a_1 m i1=some o1∧e=[(2,.pointer (some ⟨bb1,0,none⟩)),(3,.pointer (some ⟨bb2,0,none⟩)),(5,.int .i64 (a_1.Am.length:Int)),(6,.int .i64 i1)]∧SH w w' [Ch.box bb2 (qaG a_1 p2 p3 p4 k2 k3 k4) 47,Ch.box bb1 [.slice p1 a_0.Aq.length k1] 43]) n ⟨_,hF,rfl,h⟩ rfl ?_)
 rintro m1 e1 w3 ⟨i1,hF,rfl,h⟩
 rcases m1 with _|m1
 ·cases hF
 refine X1 9 0 h rfl (qg rfl hF ?_ ?_)<;>intro hF
 ·refine X1 8 0 h rfl ?_
  obtain ⟨y1,hy1,hF,he1,b1,_,q1,cs3,hp1,hq1,hr1,hc2⟩:=s2.ix hF
  obtain ⟨p5,k5,rfl,s5⟩:=qL hr1
  refine zxe hp1 hq1 he1 rfl (zc 0 (hc2.below h.below) rfl (qm qa h rfl rfl rfl fun w4 bb3 h=>zs 0 h rfl fun w5 h=>zNSS ?_))
  obtain ⟨KF1,hKF1,o3,hF,hK3⟩:=bindE hF
  refine qbk (fun e w'=>∃ (b2:Bool),KF1 b2=some o1∧e=[(2,.pointer (some ⟨bb1,0,none⟩)),(3,.pointer (some ⟨bb2,0,none⟩)),(5,.int .i64 (a_1.Am.length:Int)),(6,.int .i64 i1),(7,.pointer (some ⟨bb3,0,none⟩)),(46,.bool b2)]∧SH w w' [Ch.box bb3 (qja y1 p5 k5) 168,Ch.box bb2 (qaG a_1 p2 p3 p4 k2 k3 k4) 47,Ch.box bb1 [.slice p1 a_0.Aq.length k1] 43]) ?_ ?_
  ·refine rD (Y1 2 0 h rfl ?_)
   refine Y1 2 2 h rfl ?_
   refine zd2 rfl ?_
   obtain ⟨r2,hr4,hF⟩:=qc hF
   refine qa3 r2 (vsB _) (cB 58 rfl) (fun _ hb=>qab  hr4) rfl rfl rfl rfl (zd2 rfl (qaI (t:=33) hF rfl ?_ ?_))<;>intro hF
   ·refine Y0 13 rfl (dN h fun w8 h=>?_)
    obtain rfl:=qb hF
    exact rG ⟨_,hK3,rfl,h⟩ rfl
   refine Y1 4 0 h rfl ?_
   refine Y1 6 2 h rfl ?_
   refine Y1 4 0 h rfl ?_
   refine Y0 1 rfl ?_
   obtain ⟨y3,hy3,hF,he3,b4,_,q3,cs5,hp3,hq3,hr5,hc7⟩:=s1.ix hF
   obtain ⟨p6,k6,p7,k7,p8,k8,rfl,s6,s7,s8⟩:=qaa hr5
   refine zdxe hp3 hq3 he3 rfl (Y0 3 rfl (zdc 2 (hc7.below h.below) rfl (Y0 5 rfl (dN h fun w9 h=>?_))))
   obtain rfl:=qb hF
   exact rG ⟨_,hK3,rfl,h⟩ rfl
  rintro e3 w10 ⟨b2,hF,rfl,h⟩
  subst hKF1
  refine qg rfl hF ?_ ?_<;>intro hF
  ·refine X0 4 rfl ?_
   obtain rfl:=qb hF;replace hF:=hK1
   exact rb h hF rfl
  refine X0 5 rfl ?_
  obtain ⟨o2,hF,hK2⟩:=qc hF
  refine ql (rL (fun m e w'=>∃ (i2:Int),qdQ a_1 y1 m i2=some o2∧e=[(2,.pointer (some ⟨bb1,0,none⟩)),(3,.pointer (some ⟨bb2,0,none⟩)),(5,.int .i64 (a_1.Am.length:Int)),(6,.int .i64 i1),(7,.pointer (some ⟨bb3,0,none⟩)),(8,.int .i64 i2)]∧SH w w' [Ch.box bb3 (qja y1 p5 k5) 168,Ch.box bb2 (qaG a_1 p2 p3 p4 k2 k3 k4) 47,Ch.box bb1 [.slice p1 a_0.Aq.length k1] 43]) m1 ⟨_,hF,rfl,h⟩ rfl ?_)
  rintro m2 e2 w6 ⟨i2,hF,rfl,h⟩
  rcases m2 with _|m2
  ·cases hF
  refine X1 9 0 h rfl (qg rfl hF ?_ ?_)<;>intro hF
  ·refine X1 8 0 h rfl ?_
   obtain ⟨y2,hy2,hF,he2,b3,_,q2,cs4,hp2,hq2,rfl,hc5⟩:=s5.ix hF
   refine zxe hp2 hq2 he2 rfl (zc 0 (hc5.below h.below) rfl (zp2 rfl (zcB h hF qab rfl fun r1 w7 h hF=>X0 2 rfl (qg rfl hF ?_ ?_))))<;>intro hF
   ·refine X0 4 rfl ?_
    obtain rfl:=qb hF;replace hF:=hK2
    obtain rfl:=qb hF;replace hF:=hK1
    exact rb h hF rfl
   exact X0 7 rfl (rK ⟨_,hF,rfl,h⟩ rfl)
  refine qr rfl ?_
  obtain rfl:=qb hF;replace hF:=hK2
  refine X0 6 rfl ?_
  replace h:=h.pick [1,2] rfl
  exact rK ⟨_,hF,rfl,h⟩ rfl
 refine qr rfl ?_
 obtain rfl:=qb hF;replace hF:=hK1
 refine X0 5 rfl ?_
 obtain ⟨o4,hF,hK4⟩:=qc hF
 refine ql ?_
 replace h:=h.pick [0] rfl
 refine rL (fun m e w'=>∃ (i3:Int),qdR a_1 m i3=some o4∧e=[(3,.pointer (some ⟨bb2,0,none⟩)),(5,.int .i64 (a_1.Am.length:Int)),(9,.int .i64 i3)]∧SH w w' [Ch.box bb2 (qaG a_1 p2 p3 p4 k2 k3 k4) 47]) n ⟨_,hF,rfl,h⟩ rfl ?_
 rintro m3 e4 w11 ⟨i3,hF,rfl,h⟩
 rcases m3 with _|m3
 ·cases hF
 refine X1 9 0 h rfl (qg rfl hF ?_ ?_)<;>intro hF
 ·refine X1 8 0 h rfl ?_
  obtain ⟨y4,hy4,hF,he4,b5,_,q4,cs6,hp4,hq4,hr6,hc9⟩:=s4.ix hF
  obtain rfl:=qbd hr6
  refine zxe hp4 hq4 he4 rfl (zp1 rfl (zc 1 (hc9.below h.below) rfl (zcB h hF qab rfl fun r3 w12 h hF=>zp2 rfl (qi (t:=78) hF rfl ?_ ?_))))<;>intro hF
  ·refine X0 12 rfl (qbS rfl rfl (X0 4 rfl ?_))
   obtain rfl:=qb hF;replace hF:=hK4
   exact rb h hF rfl
  refine X1 7 0 h rfl ?_
  obtain ⟨y5,hy5,hF,he5,b6,_,q5,cs7,hp5,hq5,hr8,hc10⟩:=s4.ix hF
  obtain rfl:=qbd hr8
  refine zxe hp5 hq5 he5 rfl (X0 3 rfl (zc 2 (hc10.below h.below) rfl (X0 5 rfl (zcB h hF qab rfl fun r4 w13 h hF=>X0 4 rfl (qg rfl hF ?_ ?_)))))<;>intro hF
  ·refine X0 4 rfl ?_
   obtain rfl:=qb hF;replace hF:=hK4
   exact rb h hF rfl
  exact X0 7 rfl (rK ⟨_,hF,rfl,h⟩ rfl)
 refine qr rfl ?_
 obtain rfl:=qb hF;replace hF:=hK4
 exact X0 4 rfl (rb h hF rfl)
def qdZ (list:(List ByteArray)) (i1:Int):Nat→Int→Option (Flow Bool Int)
 | 0,_=>none
 | n+1,i2 =>
  bif decide (i2<i1) then
   (idx list i2).bind fun y2 =>
   (idx list i1).bind fun y3 =>
   bif (y2.toList==y3.toList) then some (.ret false) else
   qdZ list i1 n (W64 (i2+1))
  else
   some (.nxt i2)
def qdP (list:(List ByteArray)):Nat→Int→Option (Flow Bool Int)
 | 0,_=>none
 | n+1,i1 =>
  bif decide (i1<(list.length:Int)) then
   (idx list i1).bind fun y1 =>
   (qfq n y1).bind fun r1 =>
   bif (!r1) then some (.ret false) else
   (qdZ list i1 n 0).bind fun o=>match o with
   | .ret r=>some (.ret r)
   | .nxt _ =>
    qdP list n (W64 (i1+1))
  else
   some (.nxt i1)
def qfQ (n:Nat) (list:(List ByteArray)):Option Bool :=
 (qdP list n 0).bind fun o=>match o with
 | .ret r=>some r
 | .nxt _ =>
  some true
theorem qiw {list:(List ByteArray)} (ha1:GoT.R w (old w) list cs1) {r:Bool} (hF:qfQ n list=some r):RetV Tryz.prog 165 [GoT.v (List ByteArray) cs1] w r:=by
 obtain ⟨p1,k1,rfl,s1⟩:=ha1
 refine zV 31 Tryz.func165 rfl fun h=>X0 9 rfl ?_
 obtain ⟨o1,hF,hK1⟩:=qc hF
 refine ql (rL (fun m e w'=>∃ (i1:Int),qdP list m i1=some o1∧e=[(0,.slice p1 list.length k1),(3,.int .i64 i1)]∧SH w w' []) n ⟨_,hF,rfl,h⟩ rfl ?_)
 rintro m1 e1 w1 ⟨i1,hF,rfl,h⟩
 rcases m1 with _|m1
 ·cases hF
 refine X0 8 rfl (qg rfl hF ?_ ?_)<;>intro hF
 ·refine X0 8 rfl ?_
  obtain ⟨y1,hy1,hF,he1,b1,_,q1,cs2,hp1,hq1,rfl,hc2⟩:=s1.ix hF
  refine zxe hp1 hq1 he1 rfl (zc 0 (hc2.below h.below) rfl (zcB h hF qhe rfl fun r1 w2 h hF=>X0 2 rfl (qg rfl hF ?_ ?_)))<;>intro hF
  ·refine X0 4 rfl ?_
   obtain rfl:=qb hF;replace hF:=hK1
   exact rb h hF rfl
  refine X0 5 rfl ?_
  obtain ⟨o2,hF,hK2⟩:=qc hF
  refine ql (rL (fun m e w'=>∃ (i2:Int),qdZ list i1 m i2=some o2∧e=[(0,.slice p1 list.length k1),(3,.int .i64 i1),(4,.int .i64 i2)]∧SH w w' []) m1 ⟨_,hF,rfl,h⟩ rfl ?_)
  rintro m2 e2 w3 ⟨i2,hF,rfl,h⟩
  rcases m2 with _|m2
  ·cases hF
  refine X0 7 rfl (qg rfl hF ?_ ?_)<;>intro hF
  ·refine X0 4 rfl (rD (zd2 rfl ?_))
   obtain ⟨y2,hy2,hF,he2,b2,_,q2,cs3,hp2,hq2,rfl,hc5⟩:=s1.ix hF
   refine zdxe hp2 hq2 he2 rfl (zdc 0 (hc5.below h.below) rfl (zd2 rfl ?_))
   obtain ⟨y3,hy3,hF,he3,b3,_,q3,cs4,hp3,hq3,rfl,hc6⟩:=s1.ix hF
   refine zdxe hp3 hq3 he3 rfl (zdc 0 (hc6.below h.below) rfl (zd1 rfl (dN h fun w4 h=>qg rfl hF ?_ ?_)))<;>intro hF
   ·refine X0 4 rfl ?_
    obtain rfl:=qb hF;replace hF:=hK2
    obtain rfl:=qb hF;replace hF:=hK1
    exact rb h hF rfl
   exact X0 7 rfl (rK ⟨_,hF,rfl,h⟩ rfl)
  refine qr rfl ?_
  obtain rfl:=qb hF;replace hF:=hK2
  exact X0 6 rfl (rK ⟨_,hF,rfl,h⟩ rfl)
 refine qr rfl ?_
 obtain rfl:=qb hF;replace hF:=hK1
 exact X0 4 rfl (rb h hF rfl)
def qdX (x5:(List Int)) (x7:(List Int)):Nat→Int→Option (Flow Bool Int)
 | 0,_=>none
 | n+1,i5 =>
  bif decide (i5<(x5.length:Int)) then
   (idx x7 i5).bind fun y11 =>
   bif (y11 != 1) then some (.ret false) else
   qdX x5 x7 n (W64 (i5+1))
  else
   some (.nxt i5)
def qce (a_1:qd):Nat→(List Int)→Int→Option ((List Int) × Int)
 | 0,_,_=>none
 | n+1,x7,i4 =>
  bif decide (i4<(a_1.Aj.length:Int)) then
   (idx a_1.Aj i4).bind fun y7 =>
   bif (y7.Bv==1) then
    (idx a_1.Aj i4).bind fun y8 =>
    (idx x7 y8.Bx).bind fun y9 =>
    (idx x7 y8.Bx).bind fun _ =>
    qce a_1 n (setS x7 y8.Bx (W64 (y9+1))) (W64 (i4+1))
   else
    qce a_1 n x7 (W64 (i4+1))
  else
   some (x7,i4)
def qcW (a_1:qd):Nat→(List Int)→Int→Option ((List Int) × Int)
 | 0,_,_=>none
 | n+1,x6,i3 =>
  bif decide (i3<(a_1.Aa.length:Int)) then
   (idx a_1.Aa i3).bind fun y3 =>
   (idx y3.Am (W64 ((y3.Am.length:Int)-1))).bind fun y4 =>
   (idx x6 y4).bind fun y5 =>
   (idx x6 y4).bind fun _ =>
   qcW a_1 n (setS x6 y4 (W64 (y5+1))) (W64 (i3+1))
  else
   some (x6,i3)
def qc1 (a_1:qd):Nat→(List ByteArray)→Int→Option ((List ByteArray) × Int)
 | 0,_,_=>none
 | n+1,x3,i2 =>
  bif decide (i2<(a_1.Aj.length:Int)) then
   (idx a_1.Aj i2).bind fun y2 =>
   (appS x3 ([y2.Bb]:List ByteArray)).bind fun x4 =>
   qc1 a_1 n x4 (W64 (i2+1))
  else
   some (x3,i2)
def qcX (a_1:qd):Nat→(List ByteArray)→Int→Option ((List ByteArray) × Int)
 | 0,_,_=>none
 | n+1,x1,i1 =>
  bif decide (i1<(a_1.Aa.length:Int)) then
   (idx a_1.Aa i1).bind fun y1 =>
   (appS x1 ([y1.Bb]:List ByteArray)).bind fun x2 =>
   qcX a_1 n x2 (W64 (i1+1))
  else
   some (x1,i1)
def qiJ (n:Nat) (a_0:qp) (a_1:qd):Option Bool :=
 (
  (qhB n a_0).bind fun r4 =>
  bif (!r4) then some true else
  bif decide ((a_1.Aa.length:Int) > 14) then some true else
  bif decide ((a_1.Am.length:Int) > 30) then some true else
  bif decide ((a_1.Aj.length:Int) > 8) then some true else
  (qiL n a_0 a_1).bind fun r5 =>
  some (!r5)).bind fun b1 =>
 bif b1 then some false else
 (qcX a_1 n ([]:List ByteArray) 0).bind fun o=>match o with
 | (x1,_) =>
  (qc1 a_1 n ([]:List ByteArray) 0).bind fun o=>match o with
  | (x3,_) =>
   (
    (qfQ n x1).bind fun r1 =>
    bif (!r1) then some true else
    (qfQ n x3).bind fun r2 =>
    bif (!r2) then some true else
    (qfQ n a_1.Am).bind fun r3 =>
    some (!r3)).bind fun b4 =>
   bif b4 then some false else
   (mkS (a_1.Am.length:Int) (0:Int)).bind fun x5 =>
   (qcW a_1 n x5 0).bind fun o=>match o with
   | (x6,_) =>
    (qce a_1 n x6 0).bind fun o=>match o with
    | (x7,_) =>
     (qdX x5 x7 n 0).bind fun o=>match o with
     | .ret r=>some r
     | .nxt _ =>
      some true
theorem qog {a_0:qp} {a_1:qd} (ha1:GoT.R w (old w) a_0 cs1) (ha2:GoT.R w (old w) a_1 cs2) {r:Bool} (hF:qiJ n a_0 a_1=some r):RetV Tryz.prog 124 [GoT.v qp cs1,GoT.v qd cs2] w r:=by
 obtain ⟨p1,k1,rfl,s1⟩:=qbr ha1
 obtain ⟨p2,k2,p3,k3,p4,k4,rfl,s2,s3,s4⟩:=qar ha2
 refine zV 153 Tryz.func124 rfl fun h=>zSR (qt h rfl rfl fun w1 bb1 h=>qt h rfl rfl fun w2 bb2 h=>X0 4 rfl ?_)
 obtain ⟨KF2,hKF2,o7,hF,hK7⟩:=bindE hF
 refine qbk (fun e w'=>∃ (b1:Bool),KF2 b1=some r∧e=[(3,.pointer (some ⟨bb2,0,none⟩)),(40,.bool b1)]∧SH w w' [Ch.box bb2 (qaG a_1 p2 p3 p4 k2 k3 k4) 47]) ?_ ?_
 ·refine X1 2 1 h rfl (zcB h hF (qnx (h.old ha1)) rfl fun r4 w21 h hF=>zp2 rfl (qi (t:=17) hF rfl ?_ ?_))<;>intro hF
  ·refine X0 24 rfl ?_
   replace h:=h.pick [0] rfl
   obtain rfl:=qb hF
   exact rG ⟨_,hK7,rfl,h⟩ rfl
  refine X1 10 0 h rfl (qi (t:=23) hF rfl ?_ ?_)<;>intro hF
  ·refine X0 18 rfl ?_
   replace h:=h.pick [0] rfl
   obtain rfl:=qb hF
   exact rG ⟨_,hK7,rfl,h⟩ rfl
  refine X1 10 0 h rfl (qi (t:=29) hF rfl ?_ ?_)<;>intro hF
  ·refine X0 12 rfl ?_
   replace h:=h.pick [0] rfl
   obtain rfl:=qb hF
   exact rG ⟨_,hK7,rfl,h⟩ rfl
  refine X1 10 0 h rfl (qi (t:=35) hF rfl ?_ ?_)<;>intro hF
  ·refine X0 6 rfl ?_
   replace h:=h.pick [0] rfl
   obtain rfl:=qb hF
   exact rG ⟨_,hK7,rfl,h⟩ rfl
  refine X2 5 1 0 h rfl (zcB h hF (qoc (h.old ha1) (h.old ha2)) rfl fun r5 w22 h hF=>X0 4 rfl ?_)
  replace h:=h.pick [0] rfl
  obtain rfl:=qb hF
  exact rG ⟨_,hK7,rfl,h⟩ rfl
 rintro e7 w23 ⟨b1,hF,rfl,h⟩
 subst hKF2
 refine qg rfl hF ?_ ?_<;>intro hF
 ·exact X0 4 rfl (rb h hF rfl)
 refine zKSR (qS qa [] _ ([]:List ByteArray) h rfl rfl rfl rfl rfl rfl rfl rfl rfl trivial rfl fun w3 p5 S1 h=>X0 7 rfl ?_)
 obtain ⟨o1,hF,hK1⟩:=qc hF
 refine ql (rL (fun m e w'=>∃ (S2:Nat→Prop) (p6:Option Addr) (ln1:Nat) (k5:Nat) (x1:(List ByteArray)) (i1:Int),qcX a_1 m x1 i1=some o1∧e=[(3,.pointer (some ⟨bb2,0,none⟩)),(5,.slice p6 ln1 k5),(6,.int .i64 i1)]∧SH w w' [Ch.own S2 (x1:List ByteArray) [.slice p6 ln1 k5],Ch.box bb2 (qaG a_1 p2 p3 p4 k2 k3 k4) 47]) n ⟨_,_,_,_,_,_,hF,rfl,h⟩ rfl ?_)
 rintro m1 e1 w4 ⟨S2,p6,ln1,k5,x1,i1,hF,rfl,h⟩
 obtain rfl:=(h.sl 0 rfl).2
 rcases m1 with _|m1
 ·cases hF
 refine X1 9 1 h rfl (qg rfl hF ?_ ?_)<;>intro hF
 ·refine X1 8 1 h rfl ?_
  obtain ⟨y1,hy1,hF,he1,b2,_,q1,cs3,hp1,hq1,hr1,hc3⟩:=s2.ix hF
  obtain ⟨p7,k6,rfl,s5⟩:=qL hr1
  refine zxe hp1 hq1 he1 rfl (zp1 rfl (zc 0 (hc3.below h.below) rfl (qS qa [.tmp 55] _ ([y1.Bb]:List ByteArray) h rfl rfl rfl rfl rfl rfl rfl rfl rfl ⟨rfl,trivial⟩ rfl fun w5 p8 S3 h=>?_)))
  obtain ⟨x2,hx1,hF⟩:=qc hF
  obtain ⟨g1,hx1⟩:=qax hx1
  refine qcM qa 1 h rfl (h.sl 0 rfl).1 (h.sl 0 rfl).2 rfl rfl rfl rfl rfl rfl rfl rfl rfl g1 hx1 rfl fun w6 p9 k7 S4 h=>X0 8 rfl ?_
  replace h:=h.pick [1,2] rfl
  exact rK ⟨_,_,_,_,_,_,hF,rfl,h⟩ rfl
 refine qr rfl ?_
 obtain rfl:=qb hF;replace hF:=hK1
 refine zSR (qS qa [] _ ([]:List ByteArray) h rfl rfl rfl rfl rfl rfl rfl rfl rfl trivial rfl fun w7 p10 S5 h=>X0 7 rfl ?_)
 obtain ⟨o2,hF,hK2⟩:=qc hF
 refine ql (rL (fun m e w'=>∃ (S6:Nat→Prop) (p11:Option Addr) (ln2:Nat) (k8:Nat) (x3:(List ByteArray)) (i2:Int),qc1 a_1 m x3 i2=some o2∧e=[(3,.pointer (some ⟨bb2,0,none⟩)),(5,.slice p6 x1.length k5),(7,.slice p11 ln2 k8),(8,.int .i64 i2)]∧SH w w' [Ch.own S6 (x3:List ByteArray) [.slice p11 ln2 k8],Ch.own S2 (x1:List ByteArray) [.slice p6 x1.length k5],Ch.box bb2 (qaG a_1 p2 p3 p4 k2 k3 k4) 47]) n ⟨_,_,_,_,_,_,hF,rfl,h⟩ rfl ?_)
 rintro m2 e2 w8 ⟨S6,p11,ln2,k8,x3,i2,hF,rfl,h⟩
 obtain rfl:=(h.sl 0 rfl).2
 rcases m2 with _|m2
 ·cases hF
 refine X1 9 2 h rfl (qg rfl hF ?_ ?_)<;>intro hF
 ·refine X1 8 2 h rfl ?_
  obtain ⟨y2,hy2,hF,he2,b3,_,q2,cs4,hp2,hq2,hr2,hc5⟩:=s4.ix hF
  obtain rfl:=qbd hr2
  refine zxe hp2 hq2 he2 rfl (zp1 rfl (zc 0 (hc5.below h.below) rfl (qS qa [.tmp 72] _ ([y2.Bb]:List ByteArray) h rfl rfl rfl rfl rfl rfl rfl rfl rfl ⟨rfl,trivial⟩ rfl fun w9 p12 S7 h=>?_)))
  obtain ⟨x4,hx2,hF⟩:=qc hF
  obtain ⟨g2,hx2⟩:=qax hx2
  refine qcM qa 1 h rfl (h.sl 0 rfl).1 (h.sl 0 rfl).2 rfl rfl rfl rfl rfl rfl rfl rfl rfl g2 hx2 rfl fun w10 p13 k9 S8 h=>X0 8 rfl ?_
  replace h:=h.pick [1,2,3] rfl
  exact rK ⟨_,_,_,_,_,_,hF,rfl,h⟩ rfl
 refine qr rfl ?_
 obtain rfl:=qb hF;replace hF:=hK2
 refine zSS ?_
 obtain ⟨KF1,hKF1,o6,hF,hK6⟩:=bindE hF
 refine qbk (fun e w'=>∃ (b4:Bool),KF1 b4=some r∧e=[(3,.pointer (some ⟨bb2,0,none⟩)),(88,.bool b4)]∧SH w w' [Ch.box bb2 (qaG a_1 p2 p3 p4 k2 k3 k4) 47]) ?_ ?_
 ·refine X0 2 rfl (zcB h hF (qiw (h.own 1 rfl)) rfl fun r1 w17 h hF=>zp2 rfl (qi (t:=78) hF rfl ?_ ?_))<;>intro hF
  ·refine X0 11 rfl ?_
   replace h:=h.pick [2] rfl
   obtain rfl:=qb hF
   exact rG ⟨_,hK6,rfl,h⟩ rfl
  refine X0 3 rfl (zcB h hF (qiw (h.own 0 rfl)) rfl fun r2 w18 h hF=>X0 4 rfl (qi (t:=83) hF rfl ?_ ?_))<;>intro hF
  ·refine X0 6 rfl ?_
   replace h:=h.pick [2] rfl
   obtain rfl:=qb hF
   exact rG ⟨_,hK6,rfl,h⟩ rfl
  refine X1 5 2 h rfl (zcB h hF (qiw ⟨_,_,rfl,(h.oldS s3)⟩) rfl fun r3 w19 h hF=>X0 4 rfl ?_)
  replace h:=h.pick [2] rfl
  obtain rfl:=qb hF
  exact rG ⟨_,hK6,rfl,h⟩ rfl
 rintro e6 w20 ⟨b4,hF,rfl,h⟩
 subst hKF1
 refine qg rfl hF ?_ ?_<;>intro hF
 ·exact X0 4 rfl (rb h hF rfl)
 refine X1 6 0 h rfl ?_
 obtain ⟨x5,hx3,hF⟩:=qc hF
 obtain ⟨g3,g4,hx3⟩:=qM hx3
 refine qaf qa Int h rfl rfl rfl rfl rfl rfl rfl rfl rfl g3 g4 hx3 rfl fun w11 S9 p14 h=>X0 7 rfl ?_
 obtain ⟨o3,hF,hK3⟩:=qc hF
 refine ql (rL (fun m e w'=>∃ (x6:(List Int)) (i3:Int),qcW a_1 m x6 i3=some o3∧e=[(3,.pointer (some ⟨bb2,0,none⟩)),(9,.slice p14 x5.length x5.length),(10,.int .i64 i3)]∧SH w w' [Ch.own S9 (x6:List Int) [.slice p14 x5.length x5.length],Ch.box bb2 (qaG a_1 p2 p3 p4 k2 k3 k4) 47]) n ⟨_,_,hF,rfl,h⟩ rfl ?_)
 rintro m3 e3 w12 ⟨x6,i3,hF,rfl,h⟩
 rcases m3 with _|m3
 ·cases hF
 refine X1 9 1 h rfl (qg rfl hF ?_ ?_)<;>intro hF
 ·refine X1 8 1 h rfl ?_
  obtain ⟨y3,hy3,hF,he3,b5,_,q3,cs5,hp3,hq3,hr3,hc8⟩:=s2.ix hF
  obtain ⟨p15,k10,rfl,s6⟩:=qL hr3
  refine zxe hp3 hq3 he3 rfl (zp1 rfl (zc 2 (hc8.below h.below) rfl (X0 8 rfl ?_)))
  obtain ⟨y4,hy4,hF,he4,b6,_,q4,cs6,hp4,hq4,rfl,hc9⟩:=s6.ix hF
  refine zxe hp4 hq4 he4 rfl (zc 0 (hc9.below h.below) rfl ?_)
  obtain ⟨y5,hy5,hF,he5,b7,_,q5,cs7,hp5,hq5,rfl,hc10⟩:=(h.sl 0 rfl).1.ix hF
  refine zx hp5 hq5 ⟨he5.1,qT he5.2.1 (h.sl 0 rfl).2⟩ rfl (zc 0 hc10 rfl (zp1 rfl ?_))
  obtain ⟨y6,hy6,hF,he6,b8,_,q6,cs8,hp6,hq6,rfl,hc11⟩:=(h.sl 0 rfl).1.ix hF
  exact zx hp6 hq6 ⟨he6.1,qT he6.2.1 (h.sl 0 rfl).2⟩ rfl (qbq qa 0 0 (W64 (y5+1)) h rfl hy6 hp6 hq6 rfl hc11 rfl rfl rfl rfl rfl rfl rfl fun w13 h=>X0 7 rfl (rK ⟨_,_,hF,rfl,h⟩ rfl))
 refine qr rfl ?_
 obtain rfl:=qb hF;replace hF:=hK3
 refine X0 5 rfl ?_
 obtain ⟨o4,hF,hK4⟩:=qc hF
 refine ql (rL (fun m e w'=>∃ (x7:(List Int)) (i4:Int),qce a_1 m x7 i4=some o4∧e=[(3,.pointer (some ⟨bb2,0,none⟩)),(9,.slice p14 x5.length x5.length),(12,.int .i64 i4)]∧SH w w' [Ch.own S9 (x7:List Int) [.slice p14 x5.length x5.length],Ch.box bb2 (qaG a_1 p2 p3 p4 k2 k3 k4) 47]) n ⟨_,_,hF,rfl,h⟩ rfl ?_)
 rintro m4 e4 w14 ⟨x7,i4,hF,rfl,h⟩
 rcases m4 with _|m4
 ·cases hF
 refine X1 9 1 h rfl (qg rfl hF ?_ ?_)<;>intro hF
 ·refine X1 8 1 h rfl ?_
  obtain ⟨y7,hy7,hF,he7,b9,_,q7,cs9,hp7,hq7,hr7,hc13⟩:=s4.ix hF
  obtain rfl:=qbd hr7
  refine zxe hp7 hq7 he7 rfl (zp1 rfl (zc 1 (hc13.below h.below) rfl (X0 2 rfl (qg rfl hF ?_ ?_))))<;>intro hF
  ·refine X1 5 1 h rfl ?_
   obtain ⟨y8,hy8,hF,he8,b10,_,q8,cs10,hp8,hq8,hr8,hc15⟩:=s4.ix hF
   obtain rfl:=qbd hr8
   refine zxe hp8 hq8 he8 rfl (zp1 rfl (zc 2 (hc15.below h.below) rfl ?_))
   obtain ⟨y9,hy9,hF,he9,b11,_,q9,cs11,hp9,hq9,rfl,hc16⟩:=(h.sl 0 rfl).1.ix hF
   refine zx hp9 hq9 ⟨he9.1,qT he9.2.1 (h.sl 0 rfl).2⟩ rfl (zc 0 hc16 rfl (zp1 rfl ?_))
   obtain ⟨y10,hy10,hF,he10,b12,_,q10,cs12,hp10,hq10,rfl,hc17⟩:=(h.sl 0 rfl).1.ix hF
   exact zx hp10 hq10 ⟨he10.1,qT he10.2.1 (h.sl 0 rfl).2⟩ rfl (qbq qa 0 0 (W64 (y9+1)) h rfl hy10 hp10 hq10 rfl hc17 rfl rfl rfl rfl rfl rfl rfl fun w15 h=>X0 7 rfl (rK ⟨_,_,hF,rfl,h⟩ rfl))
  exact X0 7 rfl (rK ⟨_,_,hF,rfl,h⟩ rfl)
 refine qr rfl ?_
 obtain rfl:=qb hF;replace hF:=hK4
 refine X0 5 rfl ?_
 obtain ⟨o5,hF,hK5⟩:=qc hF
 refine ql ?_
 replace h:=h.pick [0] rfl
 refine rL (fun m e w'=>∃ (i5:Int),qdX x5 x7 m i5=some o5∧e=[(9,.slice p14 x5.length x5.length),(13,.int .i64 i5)]∧SH w w' [Ch.own S9 (x7:List Int) [.slice p14 x5.length x5.length]]) n ⟨_,hF,rfl,h⟩ rfl ?_
 rintro m5 e5 w16 ⟨i5,hF,rfl,h⟩
 rcases m5 with _|m5
 ·cases hF
 refine X0 8 rfl (qg rfl hF ?_ ?_)<;>intro hF
 ·refine X0 7 rfl ?_
  obtain ⟨y11,hy11,hF,he11,b13,_,q11,cs13,hp11,hq11,rfl,hc19⟩:=(h.sl 0 rfl).1.ix hF
  refine zx hp11 hq11 ⟨he11.1,qT he11.2.1 (h.sl 0 rfl).2⟩ rfl (zc 0 hc19 rfl (X0 2 rfl (qg rfl hF ?_ ?_)))<;>intro hF
  ·refine X0 4 rfl ?_
   obtain rfl:=qb hF;replace hF:=hK5
   exact rb h hF rfl
  exact X0 7 rfl (rK ⟨_,hF,rfl,h⟩ rfl)
 refine qr rfl ?_
 obtain rfl:=qb hF;replace hF:=hK5
 exact X0 4 rfl (rb h hF rfl)
def qfd (a_0:qO):Nat→Int→Option (Flow Bool Int)
 | 0,_=>none
 | n+1,i2 =>
  bif decide (i2<(a_0.Bl.length:Int)) then
   (idx a_0.Bl i2).bind fun y7 =>
   (qap n y7 0 (W64 ((a_0.Ak.length:Int)-1))).bind fun r5 =>
   bif (!r5) then some (.ret false) else
   qfd a_0 n (W64 (i2+1))
  else
   some (.nxt i2)
def qct (a_0:qO):Nat→Int→Option (Flow Bool Int)
 | 0,_=>none
 | n+1,i1 =>
  bif decide (i1<(a_0.Ak.length:Int)) then
   (
    (idx a_0.Bt i1).bind fun y5 =>
    (qap n y5 0 500).bind fun r3 =>
    bif (!r3) then some true else
    (idx a_0.Bw i1).bind fun y6 =>
    (qap n y6 0 1000).bind fun r4 =>
    some (!r4)).bind fun b2 =>
   bif b2 then some (.ret false) else
   bif (i1==0) then
    (idx a_0.Ak i1).bind fun y1 =>
    bif (y1 != (-1)) then some (.ret false) else
    (idx a_0.Bw i1).bind fun y2 =>
    bif (y2 != 0) then some (.ret false) else
    bif decide (i1 > 0) then
     (idx a_0.Ak i1).bind fun y3 =>
     (qap n y3 0 (W64 (i1-1))).bind fun r1 =>
     bif (!r1) then some (.ret false) else
     qct a_0 n (W64 (i1+1))
    else
     qct a_0 n (W64 (i1+1))
   else
    bif decide (i1 > 0) then
     (idx a_0.Ak i1).bind fun y4 =>
     (qap n y4 0 (W64 (i1-1))).bind fun r2 =>
     bif (!r2) then some (.ret false) else
     qct a_0 n (W64 (i1+1))
    else
     qct a_0 n (W64 (i1+1))
  else
   some (.nxt i1)
def qkq (n:Nat) (a_0:qO) (a_1:Int):Option Bool :=
 (
  bif decide ((a_0.Ak.length:Int)<1) then some true else
  bif decide ((a_0.Ak.length:Int) > 8) then some true else
  bif ((a_0.Bw.length:Int) != (a_0.Ak.length:Int)) then some true else
  bif ((a_0.Bt.length:Int) != (a_0.Ak.length:Int)) then some true else
  some ((a_0.Bl.length:Int) != a_1)).bind fun b1 =>
 bif b1 then some false else
 (qct a_0 n 0).bind fun o=>match o with
 | .ret r=>some r
 | .nxt _ =>
  (qfd a_0 n 0).bind fun o=>match o with
  | .ret r=>some r
  | .nxt _ =>
   some true
theorem qpR {a_0:qO} {a_1:Int} (ha1:GoT.R w (old w) a_0 cs1) {r:Bool} (hF:qkq n a_0 a_1=some r):RetV Tryz.prog 125 [GoT.v qO cs1,.int .i64 a_1] w r:=by
 obtain ⟨p1,k1,p2,k2,p3,k3,p4,k4,rfl,s1,s2,s3,s4⟩:=qaJ ha1
 refine zV 108 Tryz.func125 rfl fun h=>zSR (qt h rfl rfl fun w1 bb1 h=>X1 11 0 h rfl ?_)
 obtain ⟨KF2,hKF2,o4,hF,hK4⟩:=bindE hF
 refine qbk (fun e w'=>∃ (b1:Bool),KF2 b1=some r∧e=[(2,.pointer (some ⟨bb1,0,none⟩)),(5,.int .i64 (a_0.Ak.length:Int)),(37,.bool b1)]∧SH w w' [Ch.box bb1 (qf4 a_0 p1 p2 p3 p4 k1 k2 k3 k4) 186]) ?_ ?_
 ·refine X0 4 rfl (qi (t:=13) hF rfl ?_ ?_)<;>intro hF
  ·refine X0 25 rfl ?_
   obtain rfl:=qb hF
   exact rG ⟨_,hK4,rfl,h⟩ rfl
  refine X0 6 rfl (qi (t:=17) hF rfl ?_ ?_)<;>intro hF
  ·refine X0 21 rfl ?_
   obtain rfl:=qb hF
   exact rG ⟨_,hK4,rfl,h⟩ rfl
  refine X1 12 0 h rfl (qi (t:=24) hF rfl ?_ ?_)<;>intro hF
  ·refine X0 14 rfl ?_
   obtain rfl:=qb hF
   exact rG ⟨_,hK4,rfl,h⟩ rfl
  refine X1 12 0 h rfl (qi (t:=31) hF rfl ?_ ?_)<;>intro hF
  ·refine X0 7 rfl ?_
   obtain rfl:=qb hF
   exact rG ⟨_,hK4,rfl,h⟩ rfl
  refine X1 12 0 h rfl ?_
  obtain rfl:=qb hF
  exact rG ⟨_,hK4,rfl,h⟩ rfl
 rintro e4 w10 ⟨b1,hF,rfl,h⟩
 subst hKF2
 refine qg rfl hF ?_ ?_<;>intro hF
 ·exact X0 4 rfl (rb h hF rfl)
 refine X0 6 rfl ?_
 obtain ⟨o1,hF,hK1⟩:=qc hF
 refine ql (rL (fun m e w'=>∃ (i1:Int),qct a_0 m i1=some o1∧e=[(2,.pointer (some ⟨bb1,0,none⟩)),(5,.int .i64 (a_0.Ak.length:Int)),(6,.int .i64 i1)]∧SH w w' [Ch.box bb1 (qf4 a_0 p1 p2 p3 p4 k1 k2 k3 k4) 186]) n ⟨_,hF,rfl,h⟩ rfl ?_)
 rintro m1 e1 w2 ⟨i1,hF,rfl,h⟩
 rcases m1 with _|m1
 ·cases hF
 refine X0 7 rfl (qg rfl hF ?_ ?_)<;>intro hF
 ·refine X0 5 rfl ?_
  obtain ⟨KF1,hKF1,o2,hF,hK2⟩:=bindE hF
  refine qbk (fun e w'=>∃ (b2:Bool),KF1 b2=some o1∧e=[(2,.pointer (some ⟨bb1,0,none⟩)),(5,.int .i64 (a_0.Ak.length:Int)),(6,.int .i64 i1),(58,.bool b2)]∧SH w w' [Ch.box bb1 (qf4 a_0 p1 p2 p3 p4 k1 k2 k3 k4) 186]) ?_ ?_
  ·refine X1 4 0 h rfl ?_
   obtain ⟨y5,hy5,hF,he5,b7,_,q5,cs6,hp5,hq5,rfl,hc10⟩:=s3.ix hF
   refine zxe hp5 hq5 he5 rfl (zc 0 (hc10.below h.below) rfl (zcB h hF qab rfl fun r3 w5 h hF=>zp2 rfl (qi (t:=50) hF rfl ?_ ?_)))<;>intro hF
   ·refine X0 9 rfl ?_
    obtain rfl:=qb hF
    exact rG ⟨_,hK2,rfl,h⟩ rfl
   refine X1 7 0 h rfl ?_
   obtain ⟨y6,hy6,hF,he6,b8,_,q6,cs7,hp6,hq6,rfl,hc11⟩:=s2.ix hF
   refine zxe hp6 hq6 he6 rfl (X0 1 rfl (zc 0 (hc11.below h.below) rfl (X0 1 rfl (zcB h hF qab rfl fun r4 w6 h hF=>X0 4 rfl ?_))))
   obtain rfl:=qb hF
   exact rG ⟨_,hK2,rfl,h⟩ rfl
  rintro e2 w7 ⟨b2,hF,rfl,h⟩
  subst hKF1
  refine qg rfl hF ?_ ?_<;>intro hF
  ·refine X0 4 rfl ?_
   obtain rfl:=qb hF;replace hF:=hK1
   exact rb h hF rfl
  refine X0 6 rfl (qi (t:=61) hF rfl ?_ ?_)<;>intro hF
  ·refine X1 7 0 h rfl ?_
   obtain ⟨y1,hy1,hF,he1,b3,_,q1,cs2,hp1,hq1,rfl,hc4⟩:=s1.ix hF
   refine zxe hp1 hq1 he1 rfl (X0 1 rfl (zc 0 (hc4.below h.below) rfl (X0 4 rfl (qi (t:=68) hF rfl ?_ ?_))))<;>intro hF
   ·refine X0 25 rfl (qbS rfl rfl (X0 4 rfl ?_))
    obtain rfl:=qb hF;replace hF:=hK1
    exact rb h hF rfl
   refine X1 7 0 h rfl ?_
   obtain ⟨y2,hy2,hF,he2,b4,_,q2,cs3,hp2,hq2,rfl,hc5⟩:=s2.ix hF
   refine zxe hp2 hq2 he2 rfl (X0 1 rfl (zc 0 (hc5.below h.below) rfl (X0 6 rfl (qi (t:=77) hF rfl ?_ ?_))))<;>intro hF
   ·refine X0 15 rfl (qbS rfl rfl (X0 4 rfl ?_))
    obtain rfl:=qb hF;replace hF:=hK1
    exact rb h hF rfl
   refine X0 6 rfl (qi (t:=80) hF rfl ?_ ?_)<;>intro hF
   ·refine X1 7 0 h rfl ?_
    obtain ⟨y3,hy3,hF,he3,b5,_,q3,cs4,hp3,hq3,rfl,hc6⟩:=s1.ix hF
    refine zxe hp3 hq3 he3 rfl (X0 1 rfl (zc 0 (hc6.below h.below) rfl (X0 5 rfl (zcB h hF qab rfl fun r1 w3 h hF=>X0 6 rfl (qg rfl hF ?_ ?_)))))<;>intro hF
    ·refine X0 4 rfl ?_
     obtain rfl:=qb hF;replace hF:=hK1
     exact rb h hF rfl
    exact X0 7 rfl (rK ⟨_,hF,rfl,h⟩ rfl)
   exact X0 13 rfl (qbR rfl rfl (X0 7 rfl (rK ⟨_,hF,rfl,h⟩ rfl)))
  refine X0 22 rfl (qi (t:=80) hF rfl ?_ ?_)<;>intro hF
  ·refine X1 7 0 h rfl ?_
   obtain ⟨y4,hy4,hF,he4,b6,_,q4,cs5,hp4,hq4,rfl,hc8⟩:=s1.ix hF
   refine zxe hp4 hq4 he4 rfl (X0 1 rfl (zc 0 (hc8.below h.below) rfl (X0 5 rfl (zcB h hF qab rfl fun r2 w4 h hF=>X0 6 rfl (qg rfl hF ?_ ?_)))))<;>intro hF
   ·refine X0 4 rfl ?_
    obtain rfl:=qb hF;replace hF:=hK1
    exact rb h hF rfl
   exact X0 7 rfl (rK ⟨_,hF,rfl,h⟩ rfl)
  exact X0 13 rfl (qbR rfl rfl (X0 7 rfl (rK ⟨_,hF,rfl,h⟩ rfl)))
 refine qr rfl ?_
 obtain rfl:=qb hF;replace hF:=hK1
 refine X0 5 rfl ?_
 obtain ⟨o3,hF,hK3⟩:=qc hF
 refine ql (rL (fun m e w'=>∃ (i2:Int),qfd a_0 m i2=some o3∧e=[(2,.pointer (some ⟨bb1,0,none⟩)),(5,.int .i64 (a_0.Ak.length:Int)),(7,.int .i64 i2)]∧SH w w' [Ch.box bb1 (qf4 a_0 p1 p2 p3 p4 k1 k2 k3 k4) 186]) n ⟨_,hF,rfl,h⟩ rfl ?_)
 rintro m2 e3 w8 ⟨i2,hF,rfl,h⟩
 rcases m2 with _|m2
 ·cases hF
 refine X1 9 0 h rfl (qg rfl hF ?_ ?_)<;>intro hF
 ·refine X1 8 0 h rfl ?_
  obtain ⟨y7,hy7,hF,he7,b9,_,q7,cs8,hp7,hq7,rfl,hc13⟩:=s4.ix hF
  refine zxe hp7 hq7 he7 rfl (zc 0 (hc13.below h.below) rfl (zp2 rfl (zcB h hF qab rfl fun r5 w9 h hF=>X0 2 rfl (qg rfl hF ?_ ?_))))<;>intro hF
  ·refine X0 4 rfl ?_
   obtain rfl:=qb hF;replace hF:=hK3
   exact rb h hF rfl
  exact X0 7 rfl (rK ⟨_,hF,rfl,h⟩ rfl)
 refine qr rfl ?_
 obtain rfl:=qb hF;replace hF:=hK3
 exact X0 4 rfl (rb h hF rfl)
def qeg (b:qf):Nat→Int→Option (Flow Bool Int)
 | 0,_=>none
 | n+1,i1 =>
  bif decide (i1<(b.Ac.length:Int)) then
   (idx b.Ac i1).bind fun y1 =>
   (qfO n (⟨b.Ab.Aa,b.Ab.Am,b.Ab.Aj⟩:qd) i1).bind fun r1 =>
   (qkq n y1 (r1.length:Int)).bind fun r2 =>
   bif (!r2) then some (.ret false) else
   qeg b n (W64 (i1+1))
  else
   some (.nxt i1)
def qgE (n:Nat) (b:qf):Option Bool :=
 (
  (qiJ n (⟨b.Av.Aq⟩:qp) (⟨b.Ab.Aa,b.Ab.Am,b.Ab.Aj⟩:qd)).bind fun r3 =>
  bif (!r3) then some true else
  some ((b.Ac.length:Int) != (b.Ab.Am.length:Int))).bind fun b1 =>
 bif b1 then some false else
 (qeg b n 0).bind fun o=>match o with
 | .ret r=>some r
 | .nxt _ =>
  some true
theorem qlR {b:qf} (ha1:GoT.R w (old w) b cs1) {r:Bool} (hF:qgE n b=some r):RetV Tryz.prog 73 [GoT.v qf cs1] w r:=by
 obtain ⟨p1,k1,p2,k2,p3,k3,p4,k4,p5,k5,rfl,s1,s2,s3,s4,s5⟩:=qX ha1
 refine zV 39 Tryz.func73 rfl fun h=>zSR (qt h rfl rfl fun w1 bb1 h=>X0 4 rfl ?_)
 obtain ⟨KF1,hKF1,o2,hF,hK2⟩:=bindE hF
 refine qbk (fun e w'=>∃ (b1:Bool),KF1 b1=some r∧e=[(1,.pointer (some ⟨bb1,0,none⟩)),(19,.bool b1)]∧SH w w' [Ch.box bb1 (qaO b p1 p2 p3 p4 p5 k1 k2 k3 k4 k5) 50]) ?_ ?_
 ·refine X2 5 0 0 h rfl (zcB h hF (qog (qdE _ (h.oldS s1)) (qam _ (h.oldS s2) (h.oldS s3) (h.oldS s4))) rfl fun r3 w6 h hF=>zp2 rfl (qi (t:=10) hF rfl ?_ ?_))<;>intro hF
  ·refine X0 10 rfl ?_
   obtain rfl:=qb hF
   exact rG ⟨_,hK2,rfl,h⟩ rfl
  refine X2 18 0 0 h rfl ?_
  obtain rfl:=qb hF
  exact rG ⟨_,hK2,rfl,h⟩ rfl
 rintro e2 w7 ⟨b1,hF,rfl,h⟩
 subst hKF1
 refine qg rfl hF ?_ ?_<;>intro hF
 ·exact X0 4 rfl (rb h hF rfl)
 refine X0 6 rfl ?_
 obtain ⟨o1,hF,hK1⟩:=qc hF
 refine ql (rL (fun m e w'=>∃ (i1:Int),qeg b m i1=some o1∧e=[(1,.pointer (some ⟨bb1,0,none⟩)),(3,.int .i64 i1)]∧SH w w' [Ch.box bb1 (qaO b p1 p2 p3 p4 p5 k1 k2 k3 k4 k5) 50]) n ⟨_,hF,rfl,h⟩ rfl ?_)
 rintro m1 e1 w2 ⟨i1,hF,rfl,h⟩
 rcases m1 with _|m1
 ·cases hF
 refine X1 9 0 h rfl (qg rfl hF ?_ ?_)<;>intro hF
 ·refine X0 4 rfl (rA [] [0] h rfl fun w3 h=>M1 7 [0,1,2] 0 (h.pick [0] rfl) rfl ?_)
  obtain ⟨y1,hy1,hF,he1,b2,_,q1,cs2,hp1,hq1,hr1,hc3⟩:=s5.ix hF
  obtain ⟨p6,k6,p7,k7,p8,k8,p9,k9,rfl,s6,s7,s8,s9⟩:=qaJ hr1
  refine Ae 3 15 hp1 hq1 he1 (h.pick [0] rfl) rfl (Al 4 31 0 hc3 (h.pick [0] rfl) rfl (M1 255 [5,6,7] 0 (h.pick [0] rfl) rfl (Ao 8 511 rfl (zcL h hF (qiy (qam _ (h.oldS s2) (h.oldS s3) (h.oldS s4))) rfl fun r1 w4 S1 p10 k10 h hF=>G0 1023 [9] (h.pick [1] rfl) rfl (Ao 10 2047 rfl (zcB h hF (qpR (qjK y1 (h.oldS s6) (h.oldS s7) (h.oldS s8) (h.oldS s9))) rfl fun r2 w5 h hF=>G0 4095 [11] (h.pick [1] rfl) rfl (Ad (qg rfl hF ?_ ?_))))))))<;>intro hF
  ·refine X0 4 rfl ?_
   obtain rfl:=qb hF;replace hF:=hK1
   exact rb h hF rfl
  refine X0 7 rfl ?_
  replace h:=h.pick [1] rfl
  exact rK ⟨_,hF,rfl,h⟩ rfl
 refine qr rfl ?_
 obtain rfl:=qb hF;replace hF:=hK1
 exact X0 4 rfl (rb h hF rfl)
def qaF (_:Nat) (x:Int) (low:Int) (high:Int):Option Bool :=
 bif decide (x ≥ low) then some (decide (x≤high)) else
 some false
theorem qat {x:Int} {low:Int} {high:Int}  {r:Bool} (hF:qaF n x low high=some r):RetV Tryz.prog 115 [.int .i64 x,.int .i64 low,.int .i64 high] w r:=by
 refine zV 15 Tryz.func115 rfl fun h=>X0 10 rfl (qi (t:=10) hF rfl ?_ ?_)<;>intro hF
 ·exact X0 9 rfl (rb h hF rfl)
 exact X0 6 rfl (rb h hF rfl)
def qh4 (_:Nat) (s cutset:ByteArray):Option ByteArray :=
 if s.size≤9223372036854775807∧cutset.size<4294967281∧cutset.data.toList.all (fun b=>decide (b.toNat<128))=true then some ⟨(Lib.trimS s.data.toList cutset.data.toList).toArray⟩ else none
theorem qph {s cutset:ByteArray} {r:ByteArray} (hF:qh4 n s cutset=some r):RetV Tryz.prog 177 [.string s,.string cutset] w r:=by
 unfold qh4 at hF
 split at hF
 ·rename_i hh
  obtain rfl:=qb hF
  refine (Tryz.strings_Trim_any s cutset w hh.1 hh.2.1 hh.2.2).mono ?_
  rintro e w' ⟨rfl,hB⟩
  exact ⟨_,rfl,hB,[.string _],rfl,qxu _ _⟩
 cases hF
def qf3 (_:Nat) (s:ByteArray) (c:(IntK .u8)):Option Int :=
 some (Lib.indexByte s.data.toList c.val.toNat.toUInt8)
theorem qmt {s:ByteArray} {c:(IntK .u8)} {r:Int} (hF:qf3 n s c=some r):RetV Tryz.prog 178 [.string s,.int .u8 c.val] w r:=by
 obtain rfl:=qb hF
 refine (Tryz.strings_IndexByte s c.val w).mono ?_
 rintro e w' ⟨rfl,rfl⟩
 exact ⟨_,rfl,Below.refl _ _,[.int .i64 _],rfl,qvh _ _⟩
def qhA (n:Nat) (s:ByteArray):Option Bool :=
 (qaF n (s.size:Int) 1 8).bind fun r1 =>
 bif r1 then
  (qh4 n s (⟨#[97,98,99,100,101,102,103,104,105,106,107,108,109,110,111,112,113,114,115,116,117,118,119,120,121,122,48,49,50,51,52,53,54,55,56,57]⟩:ByteArray)).bind fun r2 =>
  bif (r2.toList==(⟨#[]⟩:ByteArray).toList) then
   (atS s 0).bind fun y1 =>
   (qf3 n (⟨#[97,98,99,100,101,102,103,104,105,106,107,108,109,110,111,112,113,114,115,116,117,118,119,120,121,122]⟩:ByteArray) (⟨y1⟩:IntK .u8)).bind fun r3 =>
   some (decide (r3 ≥ 0))
  else
   some false
 else
  some false
theorem qj9 {s:ByteArray}  {r:Bool} (hF:qhA n s=some r):RetV Tryz.prog 137 [.string s] w r:=by
 refine zV 17 Tryz.func137 rfl fun h=>X0 8 rfl (zcB h hF qat rfl fun r1 w1 h hF=>zp1 rfl (qi (t:=6) hF rfl ?_ ?_))<;>intro hF
 ·refine X0 3 rfl (zcS h hF qph rfl fun r2 w2 h hF=>X0 4 rfl (qi (t:=11) hF rfl ?_ ?_))<;>intro hF
  ·refine X0 3 rfl ?_
   obtain ⟨y1,hx1,hF⟩:=qc hF
   have g1:=qmA hx1
   exact r_v (qmy qa g1 rfl rfl rfl rfl) rfl (X0 1 rfl (zcI h hF qmt rfl fun r3 w3 h hF=>X0 5 rfl (rb h hF rfl)))
  exact X0 7 rfl (rb h hF rfl)
 exact X0 12 rfl (rb h hF rfl)
def qbN (s:(List ByteArray)) (v:ByteArray):Nat→Int→Option (Flow Int Int)
 | 0,_=>none
 | n+1,i1 =>
  bif decide (i1<(s.length:Int)) then
   (idx s i1).bind fun y1 =>
   bif (v.toList==y1.toList) then some (.ret i1) else
   qbN s v n (W64 (i1+1))
  else
   some (.nxt i1)
def qeW (n:Nat) (s:(List ByteArray)) (v:ByteArray):Option Int :=
 (qbN s v n 0).bind fun o=>match o with
 | .ret r=>some r
 | .nxt _ =>
  some (-1)
theorem qlu {s:(List ByteArray)} {v:ByteArray} (ha1:GoT.R w (old w) s cs1) {r:Int} (hF:qeW n s v=some r):RetV Tryz.prog 258 [GoT.v (List ByteArray) cs1,.string v] w r:=by
 obtain ⟨p1,k1,rfl,s1⟩:=ha1
 refine zV 19 Tryz.func258 rfl fun h=>X0 11 rfl ?_
 obtain ⟨o1,hF,hK1⟩:=qc hF
 refine ql (rL (fun m e w'=>∃ (i1:Int),qbN s v m i1=some o1∧e=[(0,.slice p1 s.length k1),(1,.string v),(7,.int .i64 (s.length:Int)),(8,.int .i64 i1)]∧SH w w' []) n ⟨_,hF,rfl,h⟩ rfl ?_)
 rintro m1 e1 w1 ⟨i1,hF,rfl,h⟩
 rcases m1 with _|m1
 ·cases hF
 refine X0 5 rfl (qg rfl hF ?_ ?_)<;>intro hF
 ·refine X0 13 rfl ?_
  obtain ⟨y1,hy1,hF,he1,b1,_,q1,cs2,hp1,hq1,rfl,hc2⟩:=s1.ix hF
  refine zxe hp1 hq1 he1 rfl (zc 0 (hc2.below h.below) rfl (X0 2 rfl (qg rfl hF ?_ ?_)))<;>intro hF
  ·refine X0 5 rfl ?_
   obtain rfl:=qb hF;replace hF:=hK1
   exact ri h hF rfl
  exact X0 6 rfl (rK ⟨_,hF,rfl,h⟩ rfl)
 refine qr rfl ?_
 obtain rfl:=qb hF;replace hF:=hK1
 exact X0 4 rfl (ri h hF rfl)
def qdH (n:Nat) (s:(List ByteArray)) (v:ByteArray):Option Bool :=
 (qeW n s v).bind fun r1 =>
 some (decide (r1 ≥ 0))
theorem qkm {s:(List ByteArray)} {v:ByteArray} (ha1:GoT.R w (old w) s cs1) {r:Bool} (hF:qdH n s v=some r):RetV Tryz.prog 238 [GoT.v (List ByteArray) cs1,.string v] w r:=by
 obtain ⟨p1,k1,rfl,s1⟩:=ha1
 exact zV 9 Tryz.func238 rfl fun h=>X0 8 rfl (zcI h hF (qlu ⟨_,_,rfl,(h.oldS s1)⟩) rfl fun r1 w1 h hF=>X0 3 rfl (rb h hF rfl))
def qdW (list:(List ByteArray)):Nat→Int→Option (Flow Bool Int)
 | 0,_=>none
 | n+1,i1 =>
  bif decide (i1<(list.length:Int)) then
   (idx list i1).bind fun y1 =>
   (qhA n y1).bind fun r1 =>
   bif (!r1) then some (.ret false) else
   (subS list 0 i1).bind fun x1 =>
   (qdH n x1 y1).bind fun r2 =>
   bif r2 then some (.ret false) else
   qdW list n (W64 (i1+1))
  else
   some (.nxt i1)
def qdL (n:Nat) (list:(List ByteArray)):Option Bool :=
 (qdW list n 0).bind fun o=>match o with
 | .ret r=>some r
 | .nxt _ =>
  some true
theorem qeZ {list:(List ByteArray)} (ha1:GoT.R w (old w) list cs1) {r:Bool} (hF:qdL n list=some r):RetV Tryz.prog 205 [GoT.v (List ByteArray) cs1] w r:=by
 obtain ⟨p1,k1,rfl,s1⟩:=ha1
 refine zV 23 Tryz.func205 rfl fun h=>X0 11 rfl ?_
 obtain ⟨o1,hF,hK1⟩:=qc hF
 refine ql (rL (fun m e w'=>∃ (i1:Int),qdW list m i1=some o1∧e=[(0,.slice p1 list.length k1),(5,.slice p1 list.length k1),(6,.int .i64 (list.length:Int)),(7,.int .i64 i1)]∧SH w w' []) n ⟨_,hF,rfl,h⟩ rfl ?_)
 rintro m1 e1 w1 ⟨i1,hF,rfl,h⟩
 rcases m1 with _|m1
 ·cases hF
 refine X0 5 rfl (qg rfl hF ?_ ?_)<;>intro hF
 ·refine X0 6 rfl ?_
  obtain ⟨y1,hy1,hF,he1,b1,_,q1,cs2,hp1,hq1,rfl,hc2⟩:=s1.ix hF
  refine zxe hp1 hq1 he1 rfl (zc 0 (hc2.below h.below) rfl (X0 6 rfl (zcB h hF qj9 rfl fun r1 w2 h hF=>zp2 rfl (qi (t:=15) hF rfl ?_ ?_))))<;>intro hF
  ·refine X0 7 rfl (qbS rfl rfl (X0 4 rfl ?_))
   obtain rfl:=qb hF;replace hF:=hK1
   exact rb h hF rfl
  refine X0 5 rfl ?_
  obtain ⟨x1,hx1,hF⟩:=qc hF
  obtain ⟨p2,k2,hp2,hk1,hl1,g1⟩:=qvO (h.oldS s1) hx1
  refine r_v (qsK qa rfl rfl rfl (qu5 g1 rfl) hp2 hk1 hl1 rfl rfl rfl rfl) rfl ?_
  have s2:=qvf s1 hx1 hp2 hk1
  refine X0 3 rfl (zcB h hF (qkm ⟨_,_,rfl,(h.oldS s2)⟩) rfl fun r2 w3 h hF=>X0 2 rfl (qg rfl hF ?_ ?_))<;>intro hF
  ·refine X0 4 rfl ?_
   obtain rfl:=qb hF;replace hF:=hK1
   exact rb h hF rfl
  exact X0 6 rfl (rK ⟨_,hF,rfl,h⟩ rfl)
 refine qr rfl ?_
 obtain rfl:=qb hF;replace hF:=hK1
 exact X0 4 rfl (rb h hF rfl)
def qcg (_:Nat) (list:(List qaq)):Option Int :=
 some (list.length:Int)
theorem qhy {list:(List qaq)} (ha1:GoT.R w (old w) list cs1) {r:Int} (hF:qcg n list=some r):RetV Tryz.prog 252 [GoT.v (List qaq) cs1] w r:=by
 obtain ⟨p1,k1,rfl,s1⟩:=ha1
 exact zV 5 Tryz.func252 rfl fun h=>X0 10 rfl (ri h hF rfl)
def qcE (list:(List qaq)):Nat→(List ByteArray)→Int→Option (Flow Bool ((List ByteArray) × Int))
 | 0,_,_=>none
 | n+1,x1,i1 =>
  bif decide (i1<(list.length:Int)) then
   (idx list i1).bind fun y1 =>
   (appS x1 ([y1.Bb]:List ByteArray)).bind fun x2 =>
   bif (i1==(W64 ((list.length:Int)-1))) then
    bif (y1.Bv != 2) then some (.ret false) else
    bif (y1.Bt != 0) then some (.ret false) else
    bif y1.Bp then some (.ret false) else
    qcE list n x2 (W64 (i1+1))
   else
    bif (y1.Bv != 1) then some (.ret false) else
    (qaF n y1.Bt 0 500).bind fun r1 =>
    bif (!r1) then some (.ret false) else
    qcE list n x2 (W64 (i1+1))
  else
   some (.nxt (x1,i1))
def qjD (n:Nat) (list:(List qaq)):Option Bool :=
 (qcE list n ([]:List ByteArray) 0).bind fun o=>match o with
 | .ret r=>some r
 | .nxt (x1,_) =>
  (qcg n list).bind fun r2 =>
  (qaF n r2 2 5).bind fun r3 =>
  bif r3 then
   (qdL n x1).bind fun r4 =>
   some r4
  else
   some false
theorem qo1 {list:(List qaq)} (ha1:GoT.R w (old w) list cs1) {r:Bool} (hF:qjD n list=some r):RetV Tryz.prog 235 [GoT.v (List qaq) cs1] w r:=by
 obtain ⟨p1,k1,rfl,s1⟩:=ha1
 refine zV 52 Tryz.func235 rfl fun h=>X0 15 rfl ?_
 replace h:=h.nil (α:=ByteArray)
 obtain ⟨o1,hF,hK1⟩:=qc hF
 refine ql (rL (fun m e w'=>∃ (S1:Nat→Prop) (p2:Option Addr) (ln1:Nat) (k2:Nat) (x1:(List ByteArray)) (i1:Int),qcE list m x1 i1=some o1∧e=[(0,.slice p1 list.length k1),(3,.slice p2 ln1 k2),(6,.slice p1 list.length k1),(7,.int .i64 (list.length:Int)),(8,.int .i64 i1)]∧SH w w' [Ch.own S1 (x1:List ByteArray) [.slice p2 ln1 k2]]) n ⟨_,_,_,_,_,_,hF,rfl,h⟩ rfl ?_)
 rintro m1 e1 w1 ⟨S1,p2,ln1,k2,x1,i1,hF,rfl,h⟩
 obtain rfl:=(h.sl 0 rfl).2
 rcases m1 with _|m1
 ·cases hF
 refine X0 5 rfl (qg rfl hF ?_ ?_)<;>intro hF
 ·refine X0 6 rfl ?_
  obtain ⟨y1,hy1,hF,he1,b1,_,q1,cs2,hp1,hq1,hr1,hc2⟩:=s1.ix hF
  obtain rfl:=qbl hr1
  refine zxe hp1 hq1 he1 rfl (zc 0 (hc2.below h.below) rfl (qm qa h rfl rfl rfl fun w2 bb1 h=>zp1 rfl (zs 0 h rfl fun w3 h=>X1 6 0 h rfl (qS qa [.tmp 15] _ ([y1.Bb]:List ByteArray) h rfl rfl rfl rfl rfl rfl rfl rfl rfl ⟨rfl,trivial⟩ rfl fun w4 p3 S2 h=>?_))))
  obtain ⟨x2,hx1,hF⟩:=qc hF
  obtain ⟨g1,hx1⟩:=qax hx1
  refine qcM qa 2 h rfl (h.sl 0 rfl).1 (h.sl 0 rfl).2 rfl rfl rfl rfl rfl rfl rfl rfl rfl g1 hx1 rfl fun w5 p4 k3 S3 h=>X0 10 rfl (qg rfl hF ?_ ?_)<;>intro hF
  ·refine X1 6 1 h rfl (qi (t:=26) hF rfl ?_ ?_)<;>intro hF
   ·refine X0 9 rfl (qbS rfl rfl (X0 4 rfl ?_))
    obtain rfl:=qb hF;replace hF:=hK1
    exact rb h hF rfl
   refine X1 8 1 h rfl (qi (t:=31) hF rfl ?_ ?_)<;>intro hF
   ·refine X0 4 rfl (qbS rfl rfl (X0 4 rfl ?_))
    obtain rfl:=qb hF;replace hF:=hK1
    exact rb h hF rfl
   refine X1 6 1 h rfl (qg rfl hF ?_ ?_)<;>intro hF
   ·refine X0 4 rfl ?_
    obtain rfl:=qb hF;replace hF:=hK1
    exact rb h hF rfl
   refine X0 6 rfl ?_
   replace h:=h.pick [2] rfl
   exact rK ⟨_,_,_,_,_,_,hF,rfl,h⟩ rfl
  refine X1 6 1 h rfl (qi (t:=38) hF rfl ?_ ?_)<;>intro hF
  ·refine X0 6 rfl (qbS rfl rfl (X0 4 rfl ?_))
   obtain rfl:=qb hF;replace hF:=hK1
   exact rb h hF rfl
  refine X1 5 1 h rfl (zcB h hF qat rfl fun r1 w6 h hF=>X0 4 rfl (qg rfl hF ?_ ?_))<;>intro hF
  ·refine X0 4 rfl ?_
   obtain rfl:=qb hF;replace hF:=hK1
   exact rb h hF rfl
  refine X0 6 rfl ?_
  replace h:=h.pick [2] rfl
  exact rK ⟨_,_,_,_,_,_,hF,rfl,h⟩ rfl
 refine qr rfl ?_
 obtain rfl:=qb hF;replace hF:=hK1
 refine X0 3 rfl (zcI h hF (qhy ⟨_,_,rfl,(h.oldS s1)⟩) rfl fun r2 w7 h hF=>zcB h hF qat rfl fun r3 w8 h hF=>zp1 rfl (qi (t:=48) hF rfl ?_ ?_))<;>intro hF
 ·exact X0 3 rfl (zcB h hF (qeZ (h.own 0 rfl)) rfl fun r4 w9 h hF=>X0 3 rfl (rb h hF rfl))
 exact X0 5 rfl (rb h hF rfl)
def qdO (n:Nat) (c:qA):Option Int :=
 (qcg n c.Bd).bind fun r1 =>
 some (W64 (r1-1))
theorem qgT {c:qA} (ha1:GoT.R w (old w) c cs1) {r:Int} (hF:qdO n c=some r):RetV Tryz.prog 256 [GoT.v qA cs1] w r:=by
 obtain ⟨p1,k1,p2,k2,p3,k3,rfl,s1,s2,s3⟩:=qaa ha1
 exact zV 7 Tryz.func256 rfl fun h=>zSR (qt h rfl rfl fun w1 bb1 h=>X1 6 0 h rfl (zcI h hF (qhy ⟨_,_,rfl,(h.oldS s1)⟩) rfl fun r1 w2 h hF=>X0 3 rfl (ri h hF rfl)))
def qjG (_:Nat) (kind:Int):Option Bool :=
 bif (kind==4) then some true else
 some (kind==5)
theorem qo0 {kind:Int}  {r:Bool} (hF:qjG n kind=some r):RetV Tryz.prog 265 [.int .i64 kind] w r:=by
 refine zV 9 Tryz.func265 rfl fun h=>X0 9 rfl (qi (t:=5) hF rfl ?_ ?_)<;>intro hF
 ·exact X0 5 rfl (rb h hF rfl)
 exact X0 7 rfl (rb h hF rfl)
def qgN (n:Nat) (a_n:Int) (v0:Int) (v1:Int):Option Bool :=
 (qaF n a_n v0 v1).bind fun r1 =>
 some (!r1)
theorem qna {a_n:Int} {v0:Int} {v1:Int} {p1:Option Addr} (ha1:GoT.R w (old w) (some v0) [.pointer p1]) {p2:Option Addr} (ha2:GoT.R w (old w) (some v1) [.pointer p2]) {r:Bool} (hF:qgN n a_n v0 v1=some r):RetV Tryz.prog 114 [.int .i64 a_n,.pointer p1,.pointer p2] w r:=by
 obtain ⟨b1,o_1,cs1,rfl,-,hr1,hc1⟩:=PtR.get ha1 rfl
 obtain rfl:=hr1
 obtain ⟨b2,o_2,cs2,rfl,-,hr2,hc2⟩:=PtR.get ha2 rfl
 obtain rfl:=hr2
 exact zV 10 Tryz.func114 rfl fun h=>X0 7 rfl (zc 0 (hc1.below h.below) rfl (zc 0 (hc2.below h.below) rfl (zcB h hF qat rfl fun r1 w1 h hF=>X0 3 rfl (rb h hF rfl))))
def qY (s:(List Int)) (f_0:Int) (f_1:Int):Nat→Int→Option (Flow Int Int)
 | 0,_=>none
 | n+1,i1 =>
  bif decide (i1<(s.length:Int)) then
   (idx s i1).bind fun y1 =>
   (qgN n y1 f_0 f_1).bind fun r1 =>
   bif r1 then some (.ret i1) else
   qY s f_0 f_1 n (W64 (i1+1))
  else
   some (.nxt i1)
def qaP (n:Nat) (s:(List Int)) (f_0:Int) (f_1:Int):Option Int :=
 (qY s f_0 f_1 n 0).bind fun o=>match o with
 | .ret r=>some r
 | .nxt _ =>
  some (-1)
theorem qfp {s:(List Int)} {f_0:Int} {f_1:Int} (ha1:GoT.R w (old w) s cs1) {p2:Option Addr} (ha2:GoT.R w (old w) (some f_0) [.pointer p2]) {p3:Option Addr} (ha3:GoT.R w (old w) (some f_1) [.pointer p3]) {r:Int} (hF:qaP n s f_0 f_1=some r):RetV Tryz.prog 160 [GoT.v (List Int) cs1,.func (.func 114) #[] #[.pointer p2,.pointer p3]] w r:=by
 obtain ⟨p1,k1,rfl,s1⟩:=ha1
 obtain ⟨b1,o_1,cs2,rfl,-,hr1,hc1⟩:=PtR.get ha2 rfl
 obtain rfl:=hr1
 obtain ⟨b2,o_2,cs3,rfl,-,hr2,hc2⟩:=PtR.get ha3 rfl
 obtain rfl:=hr2
 refine zV 19 Tryz.func160 rfl fun h=>X0 11 rfl ?_
 obtain ⟨o1,hF,hK1⟩:=qc hF
 refine ql (rL (fun m e w'=>∃ (i1:Int),qY s f_0 f_1 m i1=some o1∧e=[(0,.slice p1 s.length k1),(1,.func (.func 114) #[] #[.pointer (some ⟨b1,o_1,none⟩),.pointer (some ⟨b2,o_2,none⟩)]),(7,.int .i64 (s.length:Int)),(8,.int .i64 i1)]∧SH w w' []) n ⟨_,hF,rfl,h⟩ rfl ?_)
 rintro m1 e1 w1 ⟨i1,hF,rfl,h⟩
 rcases m1 with _|m1
 ·cases hF
 refine X0 5 rfl (qg rfl hF ?_ ?_)<;>intro hF
 ·refine X0 13 rfl ?_
  obtain ⟨y1,hy1,hF,he1,b3,_,q1,cs4,hp1,hq1,rfl,hc4⟩:=s1.ix hF
  refine zxe hp1 hq1 he1 rfl (zc 0 (hc4.below h.below) rfl (zcB h hF (qna (h.old ha2) (h.old ha3)) rfl fun r1 w2 h hF=>qcr (qg rfl hF ?_ ?_)))<;>intro hF
  ·refine X0 5 rfl ?_
   obtain rfl:=qb hF;replace hF:=hK1
   exact ri h hF rfl
  exact X0 6 rfl (rK ⟨_,hF,rfl,h⟩ rfl)
 refine qr rfl ?_
 obtain rfl:=qb hF;replace hF:=hK1
 exact X0 4 rfl (ri h hF rfl)
def qbm (n:Nat) (s:(List Int)) (f_0:Int) (f_1:Int):Option Bool :=
 (qaP n s f_0 f_1).bind fun r1 =>
 some (decide (r1 ≥ 0))
theorem qeV {s:(List Int)} {f_0:Int} {f_1:Int} (ha1:GoT.R w (old w) s cs1) {p2:Option Addr} (ha2:GoT.R w (old w) (some f_0) [.pointer p2]) {p3:Option Addr} (ha3:GoT.R w (old w) (some f_1) [.pointer p3]) {r:Bool} (hF:qbm n s f_0 f_1=some r):RetV Tryz.prog 111 [GoT.v (List Int) cs1,.func (.func 114) #[] #[.pointer p2,.pointer p3]] w r:=by
 obtain ⟨p1,k1,rfl,s1⟩:=ha1
 obtain ⟨b1,o_1,cs2,rfl,-,hr1,hc1⟩:=PtR.get ha2 rfl
 obtain rfl:=hr1
 obtain ⟨b2,o_2,cs3,rfl,-,hr2,hc2⟩:=PtR.get ha3 rfl
 obtain rfl:=hr2
 exact zV 9 Tryz.func111 rfl fun h=>X0 8 rfl (zcI h hF (qfp ⟨_,_,rfl,(h.oldS s1)⟩ (h.old ha2) (h.old ha3)) rfl fun r1 w1 h hF=>X0 3 rfl (rb h hF rfl))
def qbH (n:Nat) (list:(List Int)) (low:Int) (high:Int):Option Bool :=
 (qbm n list low high).bind fun r1 =>
 some (!r1)
theorem qbZ {list:(List Int)} {low:Int} {high:Int} (ha1:GoT.R w (old w) list cs1) {r:Bool} (hF:qbH n list low high=some r):RetV Tryz.prog 62 [GoT.v (List Int) cs1,.int .i64 low,.int .i64 high] w r:=by
 obtain ⟨p1,k1,rfl,s1⟩:=ha1
 exact zV 11 Tryz.func62 rfl fun h=>zSR (qt h rfl rfl fun w1 bb1 h=>qt h rfl rfl fun w2 bb2 h=>X0 6 rfl (zcB h hF (qeV ⟨_,_,rfl,(h.oldS s1)⟩ (qgo (x:=low) 1 h rfl rfl) (qgo (x:=high) 0 h rfl rfl)) rfl fun r1 w3 h hF=>X0 3 rfl (rb h hF rfl)))
def qbg (_:Nat) (list:(List Int)):Option Int :=
 some (list.length:Int)
theorem qch {list:(List Int)} (ha1:GoT.R w (old w) list cs1) {r:Int} (hF:qbg n list=some r):RetV Tryz.prog 140 [GoT.v (List Int) cs1] w r:=by
 obtain ⟨p1,k1,rfl,s1⟩:=ha1
 exact zV 5 Tryz.func140 rfl fun h=>X0 10 rfl (ri h hF rfl)
def qbj (list:(List Int)):Nat→Int→Option (Flow Bool Int)
 | 0,_=>none
 | n+1,i1 =>
  bif decide (i1<(list.length:Int)) then
   (idx list (W64 (i1-1))).bind fun y1 =>
   (idx list i1).bind fun y2 =>
   bif decide (y1 ≥ y2) then some (.ret false) else
   qbj list n (W64 (i1+1))
  else
   some (.nxt i1)
def qeE (n:Nat) (list:(List Int)):Option Bool :=
 (qbj list n 1).bind fun o=>match o with
 | .ret r=>some r
 | .nxt _ =>
  some true
theorem qi8 {list:(List Int)} (ha1:GoT.R w (old w) list cs1) {r:Bool} (hF:qeE n list=some r):RetV Tryz.prog 147 [GoT.v (List Int) cs1] w r:=by
 obtain ⟨p1,k1,rfl,s1⟩:=ha1
 refine zV 20 Tryz.func147 rfl fun h=>X0 9 rfl ?_
 obtain ⟨o1,hF,hK1⟩:=qc hF
 refine ql (rL (fun m e w'=>∃ (i1:Int),qbj list m i1=some o1∧e=[(0,.slice p1 list.length k1),(3,.int .i64 i1)]∧SH w w' []) n ⟨_,hF,rfl,h⟩ rfl ?_)
 rintro m1 e1 w1 ⟨i1,hF,rfl,h⟩
 rcases m1 with _|m1
 ·cases hF
 refine X0 8 rfl (qg rfl hF ?_ ?_)<;>intro hF
 ·refine X0 4 rfl (rD (zd3 rfl ?_))
  obtain ⟨y1,hy1,hF,he1,b1,_,q1,cs2,hp1,hq1,rfl,hc2⟩:=s1.ix hF
  refine zdxe hp1 hq1 he1 rfl (zdc 0 (hc2.below h.below) rfl (zd2 rfl ?_))
  obtain ⟨y2,hy2,hF,he2,b2,_,q2,cs3,hp2,hq2,rfl,hc3⟩:=s1.ix hF
  refine zdxe hp2 hq2 he2 rfl (zdc 0 (hc3.below h.below) rfl (zd1 rfl (dN h fun w2 h=>qg rfl hF ?_ ?_)))<;>intro hF
  ·refine X0 4 rfl ?_
   obtain rfl:=qb hF;replace hF:=hK1
   exact rb h hF rfl
  exact X0 7 rfl (rK ⟨_,hF,rfl,h⟩ rfl)
 refine qr rfl ?_
 obtain rfl:=qb hF;replace hF:=hK1
 exact X0 4 rfl (rb h hF rfl)
def qi5 (n:Nat) (list:(List Int)):Option Bool :=
 (qbg n list).bind fun r1 =>
 (qaF n r1 1 4).bind fun r2 =>
 bif r2 then
  (qbH n list 0 100000).bind fun r3 =>
  bif r3 then
   (qeE n list).bind fun r4 =>
   some r4
  else
   some false
 else
  some false
theorem ql7 {list:(List Int)} (ha1:GoT.R w (old w) list cs1) {r:Bool} (hF:qi5 n list=some r):RetV Tryz.prog 286 [GoT.v (List Int) cs1] w r:=by
 obtain ⟨p1,k1,rfl,s1⟩:=ha1
 refine zV 14 Tryz.func286 rfl fun h=>X0 7 rfl (zcI h hF (qch ⟨_,_,rfl,(h.oldS s1)⟩) rfl fun r1 w1 h hF=>zcB h hF qat rfl fun r2 w2 h hF=>zp1 rfl (qi (t:=6) hF rfl ?_ ?_))<;>intro hF
 ·refine X0 3 rfl (zcB h hF (qbZ ⟨_,_,rfl,(h.oldS s1)⟩) rfl fun r3 w3 h hF=>zp2 rfl (qi (t:=10) hF rfl ?_ ?_))<;>intro hF
  ·exact X0 3 rfl (zcB h hF (qi8 ⟨_,_,rfl,(h.oldS s1)⟩) rfl fun r4 w4 h hF=>X0 3 rfl (rb h hF rfl))
  exact X0 5 rfl (rb h hF rfl)
 exact X0 9 rfl (rb h hF rfl)
def qjr (n:Nat) (t:qv):Option Bool :=
 (qi5 n t.Bm).bind fun r1 =>
 bif r1 then
  (qi5 n t.Bj).bind fun r2 =>
  bif r2 then
   bif ((t.Bh.length:Int)==(W64 ((t.Bm.length:Int)*(t.Bj.length:Int)))) then
    (qbH n t.Bh (-1000000) 1000000).bind fun r3 =>
    some r3
   else
    some false
  else
   some false
 else
  some false
theorem qpb {t:qv} (ha1:GoT.R w (old w) t cs1) {r:Bool} (hF:qjr n t=some r):RetV Tryz.prog 279 [GoT.v qv cs1] w r:=by
 obtain ⟨p1,k1,p2,k2,p3,k3,rfl,s1,s2,s3⟩:=qaC ha1
 refine zV 29 Tryz.func279 rfl fun h=>zSR (qt h rfl rfl fun w1 bb1 h=>X1 6 0 h rfl (zcB h hF (ql7 ⟨_,_,rfl,(h.oldS s1)⟩) rfl fun r1 w2 h hF=>zp1 rfl (qi (t:=6) hF rfl ?_ ?_)))<;>intro hF
 ·refine X1 5 0 h rfl (zcB h hF (ql7 ⟨_,_,rfl,(h.oldS s2)⟩) rfl fun r2 w3 h hF=>zp2 rfl (qi (t:=11) hF rfl ?_ ?_))<;>intro hF
  ·refine X3 24 0 0 0 h rfl (qi (t:=24) hF rfl ?_ ?_)<;>intro hF
   ·exact X1 5 0 h rfl (zcB h hF (qbZ ⟨_,_,rfl,(h.oldS s3)⟩) rfl fun r3 w4 h hF=>X0 3 rfl (rb h hF rfl))
   exact X0 6 rfl (rb h hF rfl)
  exact X0 19 rfl (rb h hF rfl)
 exact X0 24 rfl (rb h hF rfl)
def qcB (x:(List Int)):Nat→Int→Int→Option (Int × Int)
 | 0,_,_=>none
 | n+1,i1,i2 =>
  bif decide (i2<(x.length:Int)) then
   (idx x i2).bind fun y2 =>
   qcB x n (if y2<i1 then y2 else i1) (W64 (i2+1))
  else
   some (i1,i2)
def qgv (n:Nat) (x:(List Int)):Option Int :=
 (
  bif decide ((x.length:Int)<1) then none else
  some ()).bind fun _ =>
 (idx x 0).bind fun y1 =>
 (qcB x n y1 1).bind fun o=>match o with
 | (i1,_) =>
  some i1
theorem qm0 {x:(List Int)} (ha1:GoT.R w (old w) x cs1) {r:Int} (hF:qgv n x=some r):RetV Tryz.prog 280 [GoT.v (List Int) cs1] w r:=by
 obtain ⟨p1,k1,rfl,s1⟩:=ha1
 refine zV 25 Tryz.func280 rfl fun h=>X0 11 rfl ?_
 obtain ⟨KF1,hKF1,o2,hF,hK2⟩:=bindE hF
 refine qbk (fun e w'=>KF1 ()=some r∧e=[(0,.slice p1 x.length k1)]∧SH w w' []) ?_ ?_
 ·refine qg rfl hF ?_ ?_<;>intro hF
  ·refine qk3 ?_
   cases hF
  refine qhp ?_
  obtain rfl:=qb hF
  exact rG ⟨hK2,rfl,h⟩ rfl
 rintro e2 w2 ⟨hF,rfl,h⟩
 subst hKF1
 refine X0 3 rfl ?_
 obtain ⟨y1,hy1,hF,he1,b1,_,q1,cs2,hp1,hq1,rfl,hc1⟩:=s1.ix hF
 refine zxe hp1 hq1 he1 rfl (zc 0 (hc1.below h.below) rfl (X0 7 rfl ?_))
 obtain ⟨o1,hF,hK1⟩:=qc hF
 refine ql (rL (fun m e w'=>∃ (i1:Int) (i2:Int),qcB x m i1 i2=some o1∧e=[(0,.slice p1 x.length k1),(3,.int .i64 i1),(4,.int .i64 i2)]∧SH w w' []) n ⟨_,_,hF,rfl,h⟩ rfl ?_)
 rintro m1 e1 w1 ⟨i1,i2,hF,rfl,h⟩
 rcases m1 with _|m1
 ·cases hF
 refine X0 8 rfl (qg rfl hF ?_ ?_)<;>intro hF
 ·refine X0 7 rfl ?_
  obtain ⟨y2,hy2,hF,he2,b2,_,q2,cs3,hp2,hq2,rfl,hc3⟩:=s1.ix hF
  exact zxe hp2 hq2 he2 rfl (zc 0 (hc3.below h.below) rfl (X0 9 rfl (rK ⟨_,_,hF,rfl,h⟩ rfl)))
 refine qr rfl ?_
 obtain rfl:=qb hF;replace hF:=hK1
 exact X0 5 rfl (ri h hF rfl)
def qgA (n:Nat) (t:qv) (v0:Bool):Option Bool :=
 (qjr n t).bind fun r1 =>
 bif (!r1) then some true else
 bif v0 then
  (qgv n t.Bh).bind fun r2 =>
  some (decide (r2<0))
 else
  some false
theorem qnb {t:qv} {v0:Bool} (ha1:GoT.R w (old w) t cs1) {p4:Option Addr} (ha2:GoT.R w (old w) (some v0) [.pointer p4]) {r:Bool} (hF:qgA n t v0=some r):RetV Tryz.prog 278 [GoT.v qv cs1,.pointer p4] w r:=by
 obtain ⟨p1,k1,p2,k2,p3,k3,rfl,s1,s2,s3⟩:=qaC ha1
 obtain ⟨b1,o_1,cs2,rfl,-,hr1,hc1⟩:=PtR.get ha2 rfl
 obtain rfl:=hr1
 refine zV 16 Tryz.func278 rfl fun h=>zSR (qt h rfl rfl fun w1 bb1 h=>X1 5 0 h rfl (zcB h hF (qpb (h.old ha1)) rfl fun r1 w2 h hF=>zp2 rfl (qi (t:=7) hF rfl ?_ ?_)))<;>intro hF
 ·exact X0 10 rfl (rb h hF rfl)
 refine X0 1 rfl (zc 0 (hc1.below h.below) rfl (X0 2 rfl (qi (t:=9) hF rfl ?_ ?_)))<;>intro hF
 ·exact X1 5 0 h rfl (zcI h hF (qm0 ⟨_,_,rfl,(h.oldS s3)⟩) rfl fun r2 w3 h hF=>X0 7 rfl (rb h hF rfl))
 exact X0 9 rfl (rb h hF rfl)
def qJ (s:(List qv)) (f_0:Bool):Nat→Int→Option (Flow Int Int)
 | 0,_=>none
 | n+1,i1 =>
  bif decide (i1<(s.length:Int)) then
   (idx s i1).bind fun y1 =>
   (qgA n y1 f_0).bind fun r1 =>
   bif r1 then some (.ret i1) else
   qJ s f_0 n (W64 (i1+1))
  else
   some (.nxt i1)
def qaB (n:Nat) (s:(List qv)) (f_0:Bool):Option Int :=
 (qJ s f_0 n 0).bind fun o=>match o with
 | .ret r=>some r
 | .nxt _ =>
  some (-1)
theorem qes {s:(List qv)} {f_0:Bool} (ha1:GoT.R w (old w) s cs1) {p2:Option Addr} (ha2:GoT.R w (old w) (some f_0) [.pointer p2]) {r:Int} (hF:qaB n s f_0=some r):RetV Tryz.prog 285 [GoT.v (List qv) cs1,.func (.func 278) #[] #[.pointer p2]] w r:=by
 obtain ⟨p1,k1,rfl,s1⟩:=ha1
 obtain ⟨b1,o_1,cs2,rfl,-,hr1,hc1⟩:=PtR.get ha2 rfl
 obtain rfl:=hr1
 refine zV 19 Tryz.func285 rfl fun h=>X0 11 rfl ?_
 obtain ⟨o1,hF,hK1⟩:=qc hF
 refine ql (rL (fun m e w'=>∃ (i1:Int),qJ s f_0 m i1=some o1∧e=[(0,.slice p1 s.length k1),(1,.func (.func 278) #[] #[.pointer (some ⟨b1,o_1,none⟩)]),(7,.int .i64 (s.length:Int)),(8,.int .i64 i1)]∧SH w w' []) n ⟨_,hF,rfl,h⟩ rfl ?_)
 rintro m1 e1 w1 ⟨i1,hF,rfl,h⟩
 rcases m1 with _|m1
 ·cases hF
 refine X0 5 rfl (qg rfl hF ?_ ?_)<;>intro hF
 ·refine X0 13 rfl ?_
  obtain ⟨y1,hy1,hF,he1,b2,_,q1,cs3,hp1,hq1,hr2,hc3⟩:=s1.ix hF
  obtain ⟨p3,k2,p4,k3,p5,k4,rfl,s2,s3,s4⟩:=qaC hr2
  refine zxe hp1 hq1 he1 rfl (zc 0 (hc3.below h.below) rfl (zcB h hF (qnb (qeR y1 (h.oldS s2) (h.oldS s3) (h.oldS s4)) (h.old ha2)) rfl fun r1 w2 h hF=>qcr (qg rfl hF ?_ ?_)))<;>intro hF
  ·refine X0 5 rfl ?_
   obtain rfl:=qb hF;replace hF:=hK1
   exact ri h hF rfl
  exact X0 6 rfl (rK ⟨_,hF,rfl,h⟩ rfl)
 refine qr rfl ?_
 obtain rfl:=qb hF;replace hF:=hK1
 exact X0 4 rfl (ri h hF rfl)
def qaX (n:Nat) (s:(List qv)) (f_0:Bool):Option Bool :=
 (qaB n s f_0).bind fun r1 =>
 some (decide (r1 ≥ 0))
theorem qd6 {s:(List qv)} {f_0:Bool} (ha1:GoT.R w (old w) s cs1) {p2:Option Addr} (ha2:GoT.R w (old w) (some f_0) [.pointer p2]) {r:Bool} (hF:qaX n s f_0=some r):RetV Tryz.prog 277 [GoT.v (List qv) cs1,.func (.func 278) #[] #[.pointer p2]] w r:=by
 obtain ⟨p1,k1,rfl,s1⟩:=ha1
 obtain ⟨b1,o_1,cs2,rfl,-,hr1,hc1⟩:=PtR.get ha2 rfl
 obtain rfl:=hr1
 exact zV 9 Tryz.func277 rfl fun h=>X0 8 rfl (zcI h hF (qes ⟨_,_,rfl,(h.oldS s1)⟩ (h.old ha2)) rfl fun r1 w1 h hF=>X0 3 rfl (rb h hF rfl))
def qfc (n:Nat) (list:(List qv)) (positive:Bool):Option Bool :=
 bif ((list.length:Int)==2) then
  (qaX n list positive).bind fun r1 =>
  some (!r1)
 else
  some false
theorem qhL {list:(List qv)} {positive:Bool} (ha1:GoT.R w (old w) list cs1) {r:Bool} (hF:qfc n list positive=some r):RetV Tryz.prog 266 [GoT.v (List qv) cs1,.bool positive] w r:=by
 obtain ⟨p1,k1,rfl,s1⟩:=ha1
 refine zV 14 Tryz.func266 rfl fun h=>zSR (qt h rfl rfl fun w1 bb1 h=>X0 8 rfl (qi (t:=8) hF rfl ?_ ?_))<;>intro hF
 ·exact X0 5 rfl (zcB h hF (qd6 ⟨_,_,rfl,(h.oldS s1)⟩ (qgo (x:=positive) 0 h rfl rfl)) rfl fun r1 w2 h hF=>X0 5 rfl (rb h hF rfl))
 exact X0 7 rfl (rb h hF rfl)
def qh7 (_:Nat) (p:qaq):Option Bool :=
 some p.Bp
theorem qmr {p:qaq} (ha1:GoT.R w (old w) p cs1) {r:Bool} (hF:qh7 n p=some r):RetV Tryz.prog 282 [GoT.v qaq cs1] w r:=by
 obtain rfl:=qbl ha1
 exact zV 5 Tryz.func282 rfl fun h=>zSR (qt h rfl rfl fun w1 bb1 h=>X1 8 0 h rfl (rb h hF rfl))
def qQ (s:(List qaq)):Nat→Int→Option (Flow Int Int)
 | 0,_=>none
 | n+1,i1 =>
  bif decide (i1<(s.length:Int)) then
   (idx s i1).bind fun y1 =>
   (qh7 n y1).bind fun r1 =>
   bif r1 then some (.ret i1) else
   qQ s n (W64 (i1+1))
  else
   some (.nxt i1)
def qbh (n:Nat) (s:(List qaq)):Option Int :=
 (qQ s n 0).bind fun o=>match o with
 | .ret r=>some r
 | .nxt _ =>
  some (-1)
theorem qeQ {s:(List qaq)} (ha1:GoT.R w (old w) s cs1) {r:Int} (hF:qbh n s=some r):RetV Tryz.prog 281 [GoT.v (List qaq) cs1,.func (.func 282) #[] #[]] w r:=by
 obtain ⟨p1,k1,rfl,s1⟩:=ha1
 refine zV 19 Tryz.func281 rfl fun h=>X0 11 rfl ?_
 obtain ⟨o1,hF,hK1⟩:=qc hF
 refine ql (rL (fun m e w'=>∃ (i1:Int),qQ s m i1=some o1∧e=[(0,.slice p1 s.length k1),(1,.func (.func 282) #[] #[]),(7,.int .i64 (s.length:Int)),(8,.int .i64 i1)]∧SH w w' []) n ⟨_,hF,rfl,h⟩ rfl ?_)
 rintro m1 e1 w1 ⟨i1,hF,rfl,h⟩
 rcases m1 with _|m1
 ·cases hF
 refine X0 5 rfl (qg rfl hF ?_ ?_)<;>intro hF
 ·refine X0 13 rfl ?_
  obtain ⟨y1,hy1,hF,he1,b1,_,q1,cs2,hp1,hq1,hr1,hc2⟩:=s1.ix hF
  obtain rfl:=qbl hr1
  refine zxe hp1 hq1 he1 rfl (zc 0 (hc2.below h.below) rfl (zcB h hF (qmr (qiZ y1)) rfl fun r1 w2 h hF=>qcr (qg rfl hF ?_ ?_)))<;>intro hF
  ·refine X0 5 rfl ?_
   obtain rfl:=qb hF;replace hF:=hK1
   exact ri h hF rfl
  exact X0 6 rfl (rK ⟨_,hF,rfl,h⟩ rfl)
 refine qr rfl ?_
 obtain rfl:=qb hF;replace hF:=hK1
 exact X0 4 rfl (ri h hF rfl)
def qhj (n:Nat) (c:qA):Option Int :=
 (qbh n c.Bd).bind fun r1 =>
 some r1
theorem qno {c:qA} (ha1:GoT.R w (old w) c cs1) {r:Int} (hF:qhj n c=some r):RetV Tryz.prog 267 [GoT.v qA cs1] w r:=by
 obtain ⟨p1,k1,p2,k2,p3,k3,rfl,s1,s2,s3⟩:=qaa ha1
 exact zV 6 Tryz.func267 rfl fun h=>zSR (qt h rfl rfl fun w1 bb1 h=>X1 6 0 h rfl (zcI h hF (qeQ ⟨_,_,rfl,(h.oldS s1)⟩) rfl fun r1 w2 h hF=>X0 2 rfl (ri h hF rfl)))
def qf0 (n:Nat) (c:qA) (pin:Int):Option Bool :=
 (qdO n c).bind fun r1 =>
 (qaF n pin 0 (W64 (r1-1))).bind fun r2 =>
 some r2
theorem qjd {c:qA} {pin:Int} (ha1:GoT.R w (old w) c cs1) {r:Bool} (hF:qf0 n c pin=some r):RetV Tryz.prog 268 [GoT.v qA cs1,.int .i64 pin] w r:=by
 obtain ⟨p1,k1,p2,k2,p3,k3,rfl,s1,s2,s3⟩:=qaa ha1
 exact zV 10 Tryz.func268 rfl fun h=>zSR (qt h rfl rfl fun w1 bb1 h=>X1 6 0 h rfl (zcI h hF (qgT (h.old ha1)) rfl fun r1 w2 h hF=>zp1 rfl (zcB h hF qat rfl fun r2 w3 h hF=>X0 2 rfl (rb h hF rfl))))
end Go.Fw


namespace Go.Fw
open Go Go.Proofs
open Go.RowKit (Below)
set_option maxRecDepth 100000
set_option maxHeartbeats 1600000
variable {n:Nat} {w:World} {cs1 cs2 cs3 cs4 cs5 cs6 cs7 cs8 cs9:List Value}
def qhh (n:Nat) (a_0:qA) (a_1:qN):Option Bool :=
 (qjG n a_1.Be).bind fun r1 =>
 bif r1 then
  (
   bif (a_1.Bn==0) then
    bif ((a_1.Bc.length:Int)==0) then
     (qfc n a_1.Bq false).bind fun r2 =>
     bif r2 then
      (qhj n a_0).bind fun r3 =>
      bif (a_1.Bk==r3) then
       bif decide (a_1.Bk ≥ 0) then
        (qf0 n a_0 a_1.To).bind fun r4 =>
        bif r4 then some (a_1.To != a_1.Bk) else
        some false
       else
        some false
      else
       some false
     else
      some false
    else
     some false
   else
    some false).bind fun b1 =>
  some b1
 else
  (
   (qfc n a_1.Bq true).bind fun r6 =>
   bif (!r6) then some true else
   (qfc n a_1.Bc true).bind fun r7 =>
   bif (!r7) then some true else
   (qdO n a_0).bind fun r8 =>
   bif (a_1.To != r8) then some true else
   (qf0 n a_0 a_1.Bk).bind fun r9 =>
   some (!r9)).bind fun b2 =>
  bif b2 then some false else
  bif (a_1.Be==1) then
   (idx a_0.Bd a_1.Bk).bind fun y1 =>
   bif (!y1.Bp) then
    (qaF n a_1.Bn 1 3).bind fun r5 =>
    some r5
   else
    some false
  else
   (
    bif (a_1.Be==2) then some (a_1.Be==2) else
    some (a_1.Be==3)).bind fun b4 =>
   bif b4 then
    (idx a_0.Bd a_1.Bk).bind fun y2 =>
    bif y2.Bp then some (a_1.Bn==0) else
    some false
   else
    some false
theorem qni {a_0:qA} {a_1:qN} (ha1:GoT.R w (old w) a_0 cs1) (ha2:GoT.R w (old w) a_1 cs2) {r:Bool} (hF:qhh n a_0 a_1=some r):RetV Tryz.prog 253 [GoT.v qA cs1,GoT.v qN cs2] w r:=by
 obtain ⟨p1,k1,p2,k2,p3,k3,rfl,s1,s2,s3⟩:=qaa ha1
 obtain ⟨p4,k4,p5,k5,rfl,s4,s5⟩:=qac ha2
 refine zV 103 Tryz.func253 rfl fun h=>zSR (qt h rfl rfl fun w1 bb1 h=>qt h rfl rfl fun w2 bb2 h=>X1 7 0 h rfl (zcB h hF qo0 rfl fun r1 w3 h hF=>qcr (qg rfl hF ?_ ?_)))<;>intro hF
 ·refine qcL ?_
  obtain ⟨KF1,hKF1,o1,hF,hK1⟩:=bindE hF
  refine qbk (fun e w'=>∃ (b1:Bool),KF1 b1=some r∧e=[(4,.bool b1)]∧SH w w' []) ?_ ?_
  ·refine rD (Y1 2 0 h rfl ?_)
   refine zd2 rfl (qaI (t:=11) hF rfl ?_ ?_)<;>intro hF
   ·refine Y1 4 0 h rfl ?_
    refine Y0 6 rfl (qaI (t:=17) hF rfl ?_ ?_)<;>intro hF
    ·refine Y1 4 0 h rfl ?_
     refine Y0 1 rfl ?_
     obtain ⟨r2,hr2,hF⟩:=qc hF
     refine qa3 r2 (vsB _) (cB 266 rfl) (fun _ hb=>qhL ⟨_,_,rfl,((h.ext hb).oldS s4)⟩ hr2) rfl rfl rfl rfl (zd2 rfl (qaI (t:=22) hF rfl ?_ ?_))<;>intro hF
     ·refine Y1 4 0 h rfl ?_
      refine Y1 2 1 h rfl ?_
      refine Y0 1 rfl ?_
      obtain ⟨r3,hr3,hF⟩:=qc hF
      refine qa3 r3 (vsI _) (cB 267 rfl) (fun _ hb=>qno ((h.ext hb).old ha1) hr3) rfl rfl rfl rfl (Y0 4 rfl (qaI (t:=29) hF rfl ?_ ?_))<;>intro hF
      ·refine Y1 4 0 h rfl ?_
       refine Y0 4 rfl (qaI (t:=34) hF rfl ?_ ?_)<;>intro hF
       ·refine Y1 2 1 h rfl ?_
        refine Y1 4 0 h rfl ?_
        refine Y0 1 rfl ?_
        obtain ⟨r4,hr4,hF⟩:=qc hF
        refine qa3 r4 (vsB _) (cB 268 rfl) (fun _ hb=>qjd ((h.ext hb).old ha1) hr4) rfl rfl rfl rfl (zd2 rfl (qaI (t:=40) hF rfl ?_ ?_))<;>intro hF
        ·refine Y1 4 0 h rfl ?_
         refine Y1 4 0 h rfl ?_
         refine Y0 4 rfl (dN h fun w4 h=>?_)
         replace h:=h.pick [] rfl
         obtain rfl:=qb hF
         exact rG ⟨_,hK1,rfl,h⟩ rfl
        refine Y0 7 rfl (dN h fun w5 h=>?_)
        replace h:=h.pick [] rfl
        obtain rfl:=qb hF
        exact rG ⟨_,hK1,rfl,h⟩ rfl
       refine Y0 13 rfl (dN h fun w6 h=>?_)
       replace h:=h.pick [] rfl
       obtain rfl:=qb hF
       exact rG ⟨_,hK1,rfl,h⟩ rfl
      refine Y0 18 rfl (dN h fun w7 h=>?_)
      replace h:=h.pick [] rfl
      obtain rfl:=qb hF
      exact rG ⟨_,hK1,rfl,h⟩ rfl
     refine Y0 25 rfl (dN h fun w8 h=>?_)
     replace h:=h.pick [] rfl
     obtain rfl:=qb hF
     exact rG ⟨_,hK1,rfl,h⟩ rfl
    refine Y0 30 rfl (dN h fun w9 h=>?_)
    replace h:=h.pick [] rfl
    obtain rfl:=qb hF
    exact rG ⟨_,hK1,rfl,h⟩ rfl
   refine Y0 36 rfl (dN h fun w10 h=>?_)
   replace h:=h.pick [] rfl
   obtain rfl:=qb hF
   exact rG ⟨_,hK1,rfl,h⟩ rfl
  rintro e1 w11 ⟨b1,hF,rfl,h⟩
  subst hKF1
  exact rb h hF rfl
 refine zKSS ?_
 obtain ⟨KF3,hKF3,o3,hF,hK3⟩:=bindE hF
 refine qbk (fun e w'=>∃ (b2:Bool),KF3 b2=some r∧e=[(2,.pointer (some ⟨bb1,0,none⟩)),(3,.pointer (some ⟨bb2,0,none⟩)),(70,.bool b2)]∧SH w w' [Ch.box bb2 (qgs a_1 p4 p5 k4 k5) 171,Ch.box bb1 (qdF a_0 p1 p2 p3 k1 k2 k3) 166]) ?_ ?_
 ·refine rD (Y1 2 0 h rfl ?_)
  obtain ⟨r6,hr8,hF⟩:=qc hF
  refine qa3 r6 (vsB _) (cB 266 rfl) (fun _ hb=>qhL ⟨_,_,rfl,((h.ext hb).oldS s4)⟩ hr8) rfl rfl rfl rfl (zd2 rfl (qaI (t:=51) hF rfl ?_ ?_))<;>intro hF
  ·refine Y0 19 rfl (dN h fun w14 h=>?_)
   obtain rfl:=qb hF
   exact rG ⟨_,hK3,rfl,h⟩ rfl
  refine Y1 4 0 h rfl ?_
  refine Y0 1 rfl ?_
  obtain ⟨r7,hr9,hF⟩:=qc hF
  refine qa3 r7 (vsB _) (cB 266 rfl) (fun _ hb=>qhL ⟨_,_,rfl,((h.ext hb).oldS s5)⟩ hr9) rfl rfl rfl rfl (Y0 4 rfl (qaI (t:=57) hF rfl ?_ ?_))<;>intro hF
  ·refine Y0 13 rfl (dN h fun w15 h=>?_)
   obtain rfl:=qb hF
   exact rG ⟨_,hK3,rfl,h⟩ rfl
  refine Y1 4 0 h rfl ?_
  refine Y1 2 1 h rfl ?_
  refine Y0 1 rfl ?_
  obtain ⟨r8,hr10,hF⟩:=qc hF
  refine qa3 r8 (vsI _) (cB 256 rfl) (fun _ hb=>qgT ((h.ext hb).old ha1) hr10) rfl rfl rfl rfl (Y0 4 rfl (qaI (t:=64) hF rfl ?_ ?_))<;>intro hF
  ·refine Y0 6 rfl (dN h fun w16 h=>?_)
   obtain rfl:=qb hF
   exact rG ⟨_,hK3,rfl,h⟩ rfl
  refine Y1 2 1 h rfl ?_
  refine Y1 4 0 h rfl ?_
  refine Y0 1 rfl ?_
  obtain ⟨r9,hr11,hF⟩:=qc hF
  refine qa3 r9 (vsB _) (cB 268 rfl) (fun _ hb=>qjd ((h.ext hb).old ha1) hr11) rfl rfl rfl rfl (Y0 3 rfl (dN h fun w17 h=>?_))
  obtain rfl:=qb hF
  exact rG ⟨_,hK3,rfl,h⟩ rfl
 rintro e3 w18 ⟨b2,hF,rfl,h⟩
 subst hKF3
 refine qg rfl hF ?_ ?_<;>intro hF
 ·exact X0 4 rfl (rb h hF rfl)
 refine X1 13 0 h rfl (qg rfl hF ?_ ?_)<;>intro hF
 ·refine X2 6 1 0 h rfl ?_
  obtain ⟨y1,hy1,hF,he1,b3,_,q1,cs3,hp1,hq1,hr5,hc4⟩:=s1.ix hF
  obtain rfl:=qbl hr5
  refine zxe hp1 hq1 he1 rfl (zp1 rfl (zc 3 (hc4.below h.below) rfl (zp2 rfl (qi (t:=83) hF rfl ?_ ?_))))<;>intro hF
  ·exact X1 5 0 h rfl (zcB h hF qat rfl fun r5 w12 h hF=>X0 3 rfl (rb h hF rfl))
  exact X0 6 rfl (rb h hF rfl)
 refine X0 6 rfl ?_
 obtain ⟨KF2,hKF2,o2,hF,hK2⟩:=bindE hF
 refine qbk (fun e w'=>∃ (b4:Bool),KF2 b4=some r∧e=[(2,.pointer (some ⟨bb1,0,none⟩)),(3,.pointer (some ⟨bb2,0,none⟩)),(88,.bool b4)]∧SH w w' [Ch.box bb2 (qgs a_1 p4 p5 k4 k5) 171,Ch.box bb1 (qdF a_0 p1 p2 p3 k1 k2 k3) 166]) ?_ ?_
 ·refine qg rfl hF ?_ ?_<;>intro hF
  ·refine qhp ?_
   obtain rfl:=qb hF
   exact rG ⟨_,hK2,rfl,h⟩ rfl
  refine X0 4 rfl ?_
  obtain rfl:=qb hF
  exact rG ⟨_,hK2,rfl,h⟩ rfl
 rintro e2 w13 ⟨b4,hF,rfl,h⟩
 subst hKF2
 refine qg rfl hF ?_ ?_<;>intro hF
 ·refine X2 6 1 0 h rfl ?_
  obtain ⟨y2,hy2,hF,he2,b5,_,q2,cs4,hp2,hq2,hr7,hc6⟩:=s1.ix hF
  obtain rfl:=qbl hr7
  refine zxe hp2 hq2 he2 rfl (zp1 rfl (zc 3 (hc6.below h.below) rfl (zp1 rfl (qi (t:=98) hF rfl ?_ ?_))))<;>intro hF
  ·exact X1 9 0 h rfl (rb h hF rfl)
  exact X0 6 rfl (rb h hF rfl)
 exact X0 6 rfl (rb h hF rfl)
def qeX (_:Nat) (a_o:qN) (v0:qN):Option Bool :=
 bif (a_o.Be==v0.Be) then
  bif (a_o.Bk==v0.Bk) then some (a_o.To==v0.To) else
  some false
 else
  some false
theorem qlO {a_o:qN} {v0:qN} (ha1:GoT.R w (old w) a_o cs1) {p3:Option Addr} (ha2:GoT.R w (old w) (some v0) [.pointer p3]) {r:Bool} (hF:qeX n a_o v0=some r):RetV Tryz.prog 255 [GoT.v qN cs1,.pointer p3] w r:=by
 obtain ⟨p1,k1,p2,k2,rfl,s1,s2⟩:=qac ha1
 obtain ⟨b1,o_1,cs2,rfl,-,hr1,hc1⟩:=PtR.get ha2 rfl
 obtain ⟨p4,k3,p5,k4,rfl,s3,s4⟩:=qac hr1
 refine zV 23 Tryz.func255 rfl fun h=>zSR (qt h rfl rfl fun w1 bb1 h=>X1 7 0 h rfl (zc 0 (hc1.below h.below) rfl (zp2 rfl (qi (t:=9) hF rfl ?_ ?_))))<;>intro hF
 ·refine X1 7 0 h rfl (zc 1 (hc1.below h.below) rfl (X0 4 rfl (qi (t:=16) hF rfl ?_ ?_)))<;>intro hF
  ·exact X1 7 0 h rfl (zc 2 (hc1.below h.below) rfl (X0 5 rfl (rb h hF rfl)))
  exact X0 8 rfl (rb h hF rfl)
 exact X0 15 rfl (rb h hF rfl)
def qI (s:(List qN)) (f_0:qN):Nat→Int→Option (Flow Int Int)
 | 0,_=>none
 | n+1,i1 =>
  bif decide (i1<(s.length:Int)) then
   (idx s i1).bind fun y1 =>
   (qeX n y1 f_0).bind fun r1 =>
   bif r1 then some (.ret i1) else
   qI s f_0 n (W64 (i1+1))
  else
   some (.nxt i1)
def qaY (n:Nat) (s:(List qN)) (f_0:qN):Option Int :=
 (qI s f_0 n 0).bind fun o=>match o with
 | .ret r=>some r
 | .nxt _ =>
  some (-1)
theorem qef {s:(List qN)} {f_0:qN} (ha1:GoT.R w (old w) s cs1) {p2:Option Addr} (ha2:GoT.R w (old w) (some f_0) [.pointer p2]) {r:Int} (hF:qaY n s f_0=some r):RetV Tryz.prog 269 [GoT.v (List qN) cs1,.func (.func 255) #[] #[.pointer p2]] w r:=by
 obtain ⟨p1,k1,rfl,s1⟩:=ha1
 obtain ⟨b1,o_1,cs2,rfl,-,hr1,hc1⟩:=PtR.get ha2 rfl
 obtain ⟨p3,k2,p4,k3,rfl,s2,s3⟩:=qac hr1
 refine zV 19 Tryz.func269 rfl fun h=>X0 11 rfl ?_
 obtain ⟨o1,hF,hK1⟩:=qc hF
 refine ql (rL (fun m e w'=>∃ (i1:Int),qI s f_0 m i1=some o1∧e=[(0,.slice p1 s.length k1),(1,.func (.func 255) #[] #[.pointer (some ⟨b1,o_1,none⟩)]),(7,.int .i64 (s.length:Int)),(8,.int .i64 i1)]∧SH w w' []) n ⟨_,hF,rfl,h⟩ rfl ?_)
 rintro m1 e1 w1 ⟨i1,hF,rfl,h⟩
 rcases m1 with _|m1
 ·cases hF
 refine X0 5 rfl (qg rfl hF ?_ ?_)<;>intro hF
 ·refine X0 13 rfl ?_
  obtain ⟨y1,hy1,hF,he1,b2,_,q1,cs3,hp1,hq1,hr2,hc3⟩:=s1.ix hF
  obtain ⟨p5,k4,p6,k5,rfl,s4,s5⟩:=qac hr2
  refine zxe hp1 hq1 he1 rfl (zc 0 (hc3.below h.below) rfl (zcB h hF (qlO (qeY y1 (h.oldS s4) (h.oldS s5)) (h.old ha2)) rfl fun r1 w2 h hF=>qcr (qg rfl hF ?_ ?_)))<;>intro hF
  ·refine X0 5 rfl ?_
   obtain rfl:=qb hF;replace hF:=hK1
   exact ri h hF rfl
  exact X0 6 rfl (rK ⟨_,hF,rfl,h⟩ rfl)
 refine qr rfl ?_
 obtain rfl:=qb hF;replace hF:=hK1
 exact X0 4 rfl (ri h hF rfl)
def qas (n:Nat) (s:(List qN)) (f_0:qN):Option Bool :=
 (qaY n s f_0).bind fun r1 =>
 some (decide (r1 ≥ 0))
theorem qdU {s:(List qN)} {f_0:qN} (ha1:GoT.R w (old w) s cs1) {p2:Option Addr} (ha2:GoT.R w (old w) (some f_0) [.pointer p2]) {r:Bool} (hF:qas n s f_0=some r):RetV Tryz.prog 254 [GoT.v (List qN) cs1,.func (.func 255) #[] #[.pointer p2]] w r:=by
 obtain ⟨p1,k1,rfl,s1⟩:=ha1
 obtain ⟨b1,o_1,cs2,rfl,-,hr1,hc1⟩:=PtR.get ha2 rfl
 obtain ⟨p3,k2,p4,k3,rfl,s2,s3⟩:=qac hr1
 exact zV 9 Tryz.func254 rfl fun h=>X0 8 rfl (zcI h hF (qef ⟨_,_,rfl,(h.oldS s1)⟩ (h.old ha2)) rfl fun r1 w1 h hF=>X0 3 rfl (rb h hF rfl))
def qcd (c:qA):Nat→Int→Option (Flow Bool Int)
 | 0,_=>none
 | n+1,i1 =>
  bif decide (i1<(c.Ar.length:Int)) then
   (idx c.Ar i1).bind fun y1 =>
   (qhh n c y1).bind fun r1 =>
   bif (!r1) then some (.ret false) else
   (subS c.Ar 0 i1).bind fun x1 =>
   (qas n x1 y1).bind fun r2 =>
   bif r2 then some (.ret false) else
   qcd c n (W64 (i1+1))
  else
   some (.nxt i1)
def qf6 (n:Nat) (c:qA):Option Bool :=
 (qcd c n 0).bind fun o=>match o with
 | .ret r=>some r
 | .nxt _ =>
  some (decide ((c.Ar.length:Int)≤8))
theorem qmj {c:qA} (ha1:GoT.R w (old w) c cs1) {r:Bool} (hF:qf6 n c=some r):RetV Tryz.prog 236 [GoT.v qA cs1] w r:=by
 obtain ⟨p1,k1,p2,k2,p3,k3,rfl,s1,s2,s3⟩:=qaa ha1
 refine zV 30 Tryz.func236 rfl fun h=>zSR (qt h rfl rfl fun w1 bb1 h=>X1 10 0 h rfl ?_)
 obtain ⟨o1,hF,hK1⟩:=qc hF
 refine ql (rL (fun m e w'=>∃ (i1:Int),qcd c m i1=some o1∧e=[(1,.pointer (some ⟨bb1,0,none⟩)),(6,.slice p2 c.Ar.length k2),(7,.int .i64 (c.Ar.length:Int)),(8,.int .i64 i1)]∧SH w w' [Ch.box bb1 (qdF c p1 p2 p3 k1 k2 k3) 166]) n ⟨_,hF,rfl,h⟩ rfl ?_)
 rintro m1 e1 w2 ⟨i1,hF,rfl,h⟩
 rcases m1 with _|m1
 ·cases hF
 refine X0 5 rfl (qg rfl hF ?_ ?_)<;>intro hF
 ·refine X0 6 rfl ?_
  obtain ⟨y1,hy1,hF,he1,b1,_,q1,cs2,hp1,hq1,hr1,hc2⟩:=s2.ix hF
  obtain ⟨p4,k4,p5,k5,rfl,s4,s5⟩:=qac hr1
  refine zxe hp1 hq1 he1 rfl (zc 0 (hc2.below h.below) rfl (qm qa h rfl rfl rfl fun w3 bb2 h=>zp1 rfl (zs 0 h rfl fun w4 h=>X2 5 1 0 h rfl (zcB h hF (qni (h.old ha1) (qeY y1 (h.oldS s4) (h.oldS s5))) rfl fun r1 w5 h hF=>zp2 rfl (qi (t:=17) hF rfl ?_ ?_)))))<;>intro hF
  ·refine X0 8 rfl (qbS rfl rfl (X0 4 rfl ?_))
   obtain rfl:=qb hF;replace hF:=hK1
   exact rb h hF rfl
  refine X1 7 1 h rfl ?_
  obtain ⟨x1,hx1,hF⟩:=qc hF
  obtain ⟨p6,k6,hp2,hk1,hl1,g1⟩:=qvO (h.oldS s2) hx1
  refine r_v (qsK qa rfl rfl rfl (qu5 g1 rfl) hp2 hk1 hl1 rfl rfl rfl rfl) rfl ?_
  have s6:=qvf s2 hx1 hp2 hk1
  refine X0 3 rfl (zcB h hF (qdU ⟨_,_,rfl,(h.oldS s6)⟩ (qgo (x:=y1) 0 h rfl (qeY y1 (h.oldS s4) (h.oldS s5)))) rfl fun r2 w6 h hF=>X0 2 rfl (qg rfl hF ?_ ?_))<;>intro hF
  ·refine X0 4 rfl ?_
   obtain rfl:=qb hF;replace hF:=hK1
   exact rb h hF rfl
  refine X0 6 rfl ?_
  replace h:=h.pick [1] rfl
  exact rK ⟨_,hF,rfl,h⟩ rfl
 refine qr rfl ?_
 obtain rfl:=qb hF;replace hF:=hK1
 exact X1 8 0 h rfl (rb h hF rfl)
def qjl (_:Nat) (a:qN) (v0:Int):Option Bool :=
 some (a.Be==v0)
theorem qnr {a:qN} {v0:Int} (ha1:GoT.R w (old w) a cs1) {p3:Option Addr} (ha2:GoT.R w (old w) (some v0) [.pointer p3]) {r:Bool} (hF:qjl n a v0=some r):RetV Tryz.prog 270 [GoT.v qN cs1,.pointer p3] w r:=by
 obtain ⟨p1,k1,p2,k2,rfl,s1,s2⟩:=qac ha1
 obtain ⟨b1,o_1,cs2,rfl,-,hr1,hc1⟩:=PtR.get ha2 rfl
 obtain rfl:=hr1
 exact zV 8 Tryz.func270 rfl fun h=>zSR (qt h rfl rfl fun w1 bb1 h=>X1 6 0 h rfl (zc 0 (hc1.below h.below) rfl (X0 3 rfl (rb h hF rfl))))
def qW (s:(List qN)) (f_0:Int):Nat→Int→Option (Flow Int Int)
 | 0,_=>none
 | n+1,i1 =>
  bif decide (i1<(s.length:Int)) then
   (idx s i1).bind fun y1 =>
   (qjl n y1 f_0).bind fun r1 =>
   bif r1 then some (.ret i1) else
   qW s f_0 n (W64 (i1+1))
  else
   some (.nxt i1)
def qbo (n:Nat) (s:(List qN)) (f_0:Int):Option Int :=
 (qW s f_0 n 0).bind fun o=>match o with
 | .ret r=>some r
 | .nxt _ =>
  some (-1)
theorem qfb {s:(List qN)} {f_0:Int} (ha1:GoT.R w (old w) s cs1) {p2:Option Addr} (ha2:GoT.R w (old w) (some f_0) [.pointer p2]) {r:Int} (hF:qbo n s f_0=some r):RetV Tryz.prog 269 [GoT.v (List qN) cs1,.func (.func 270) #[] #[.pointer p2]] w r:=by
 obtain ⟨p1,k1,rfl,s1⟩:=ha1
 obtain ⟨b1,o_1,cs2,rfl,-,hr1,hc1⟩:=PtR.get ha2 rfl
 obtain rfl:=hr1
 refine zV 19 Tryz.func269 rfl fun h=>X0 11 rfl ?_
 obtain ⟨o1,hF,hK1⟩:=qc hF
 refine ql (rL (fun m e w'=>∃ (i1:Int),qW s f_0 m i1=some o1∧e=[(0,.slice p1 s.length k1),(1,.func (.func 270) #[] #[.pointer (some ⟨b1,o_1,none⟩)]),(7,.int .i64 (s.length:Int)),(8,.int .i64 i1)]∧SH w w' []) n ⟨_,hF,rfl,h⟩ rfl ?_)
 rintro m1 e1 w1 ⟨i1,hF,rfl,h⟩
 rcases m1 with _|m1
 ·cases hF
 refine X0 5 rfl (qg rfl hF ?_ ?_)<;>intro hF
 ·refine X0 13 rfl ?_
  obtain ⟨y1,hy1,hF,he1,b2,_,q1,cs3,hp1,hq1,hr2,hc3⟩:=s1.ix hF
  obtain ⟨p3,k2,p4,k3,rfl,s2,s3⟩:=qac hr2
  refine zxe hp1 hq1 he1 rfl (zc 0 (hc3.below h.below) rfl (zcB h hF (qnr (qeY y1 (h.oldS s2) (h.oldS s3)) (h.old ha2)) rfl fun r1 w2 h hF=>qcr (qg rfl hF ?_ ?_)))<;>intro hF
  ·refine X0 5 rfl ?_
   obtain rfl:=qb hF;replace hF:=hK1
   exact ri h hF rfl
  exact X0 6 rfl (rK ⟨_,hF,rfl,h⟩ rfl)
 refine qr rfl ?_
 obtain rfl:=qb hF;replace hF:=hK1
 exact X0 4 rfl (ri h hF rfl)
def qbe (n:Nat) (s:(List qN)) (f_0:Int):Option Bool :=
 (qbo n s f_0).bind fun r1 =>
 some (decide (r1 ≥ 0))
theorem qeB {s:(List qN)} {f_0:Int} (ha1:GoT.R w (old w) s cs1) {p2:Option Addr} (ha2:GoT.R w (old w) (some f_0) [.pointer p2]) {r:Bool} (hF:qbe n s f_0=some r):RetV Tryz.prog 254 [GoT.v (List qN) cs1,.func (.func 270) #[] #[.pointer p2]] w r:=by
 obtain ⟨p1,k1,rfl,s1⟩:=ha1
 obtain ⟨b1,o_1,cs2,rfl,-,hr1,hc1⟩:=PtR.get ha2 rfl
 obtain rfl:=hr1
 exact zV 9 Tryz.func254 rfl fun h=>X0 8 rfl (zcI h hF (qfb ⟨_,_,rfl,(h.oldS s1)⟩ (h.old ha2)) rfl fun r1 w1 h hF=>X0 3 rfl (rb h hF rfl))
def qc4 (n:Nat) (c:qA) (kind:Int):Option Bool :=
 (qbe n c.Ar kind).bind fun r1 =>
 some r1
theorem qdT {c:qA} {kind:Int} (ha1:GoT.R w (old w) c cs1) {r:Bool} (hF:qc4 n c kind=some r):RetV Tryz.prog 257 [GoT.v qA cs1,.int .i64 kind] w r:=by
 obtain ⟨p1,k1,p2,k2,p3,k3,rfl,s1,s2,s3⟩:=qaa ha1
 exact zV 9 Tryz.func257 rfl fun h=>zSR (qt h rfl rfl fun w1 bb1 h=>qt h rfl rfl fun w2 bb2 h=>X1 7 1 h rfl (zcB h hF (qeB ⟨_,_,rfl,(h.oldS s2)⟩ (qgo (x:=kind) 0 h rfl rfl)) rfl fun r1 w3 h hF=>X0 2 rfl (rb h hF rfl)))
def qaZ (a_0:qA):Nat→Int→Int→Option (Int × Int)
 | 0,_,_=>none
 | n+1,i1,i2 =>
  bif decide (i2<(a_0.Bd.length:Int)) then
   (idx a_0.Bd i2).bind fun y1 =>
   bif y1.Bp then qaZ a_0 n (W64 (i1+1)) (W64 (i2+1)) else
   qaZ a_0 n i1 (W64 (i2+1))
  else
   some (i1,i2)
def qfy (n:Nat) (a_0:qA):Option Bool :=
 (qaZ a_0 n 0 0).bind fun o=>match o with
 | (i1,_) =>
  bif (a_0.Be==1) then
   bif (i1==0) then
    (qdO n a_0).bind fun r1 =>
    (shlS 1 r1).bind fun y2 =>
    bif ((a_0.Br.length:Int)==y2) then
     (qbH n a_0.Br 0 1).bind fun r2 =>
     some r2
    else
     some false
   else
    some false
  else
   bif (a_0.Be==2) then
    bif (i1==1) then
     bif ((a_0.Br.length:Int)==0) then
      (qc4 n a_0 1).bind fun r3 =>
      bif (!r3) then
       (qc4 n a_0 2).bind fun r4 =>
       (qc4 n a_0 3).bind fun r5 =>
       some (!(r4==r5))
      else
       some false
     else
      some false
    else
     some false
   else
    bif (a_0.Be==3) then
     bif (i1==1) then
      bif ((a_0.Br.length:Int)==0) then
       (qc4 n a_0 1).bind fun r6 =>
       bif r6 then
        (qc4 n a_0 2).bind fun r7 =>
        bif r7 then
         (qc4 n a_0 3).bind fun r8 =>
         some (!r8)
        else
         some false
       else
        some false
      else
       some false
     else
      some false
    else
     some false
theorem ql1 {a_0:qA} (ha1:GoT.R w (old w) a_0 cs1) {r:Bool} (hF:qfy n a_0=some r):RetV Tryz.prog 237 [GoT.v qA cs1] w r:=by
 obtain ⟨p1,k1,p2,k2,p3,k3,rfl,s1,s2,s3⟩:=qaa ha1
 refine zV 83 Tryz.func237 rfl fun h=>zSR (qt h rfl rfl fun w1 bb1 h=>X1 14 0 h rfl ?_)
 obtain ⟨o1,hF,hK1⟩:=qc hF
 refine ql (rL (fun m e w'=>∃ (i1:Int) (i2:Int),qaZ a_0 m i1 i2=some o1∧e=[(1,.pointer (some ⟨bb1,0,none⟩)),(3,.int .i64 i1),(7,.slice p1 a_0.Bd.length k1),(8,.int .i64 (a_0.Bd.length:Int)),(9,.int .i64 i2)]∧SH w w' [Ch.box bb1 (qdF a_0 p1 p2 p3 k1 k2 k3) 166]) n ⟨_,_,hF,rfl,h⟩ rfl ?_)
 rintro m1 e1 w2 ⟨i1,i2,hF,rfl,h⟩
 rcases m1 with _|m1
 ·cases hF
 refine X0 5 rfl (qg rfl hF ?_ ?_)<;>intro hF
 ·refine zKSBSR ?_
  obtain ⟨y1,hy1,hF,he1,b1,_,q1,cs2,hp1,hq1,hr1,hc2⟩:=s1.ix hF
  obtain rfl:=qbl hr1
  refine zxe hp1 hq1 he1 rfl (zc 0 (hc2.below h.below) rfl (qm qa h rfl rfl rfl fun w3 bb2 h=>zs 0 h rfl fun w4 h=>X1 6 0 h rfl (qg rfl hF ?_ ?_)))<;>intro hF
  ·refine X0 10 rfl ?_
   replace h:=h.pick [1] rfl
   exact rK ⟨_,_,hF,rfl,h⟩ rfl
  refine X0 6 rfl ?_
  replace h:=h.pick [1] rfl
  exact rK ⟨_,_,hF,rfl,h⟩ rfl
 refine qr rfl ?_
 obtain rfl:=qb hF;replace hF:=hK1
 refine X1 12 0 h rfl (qg rfl hF ?_ ?_)<;>intro hF
 ·refine qcL (rD (zd3 rfl (qaI (t:=24) hF rfl ?_ ?_)))<;>intro hF
  ·refine Y1 4 0 h rfl ?_
   refine Y1 4 0 h rfl ?_
   refine Y0 1 rfl ?_
   obtain ⟨r1,hr2,hF⟩:=qc hF
   refine qa3 r1 (vsI _) (cB 256 rfl) (fun _ hb=>qgT ((h.ext hb).old ha1) hr2) rfl rfl rfl rfl (Y0 1 rfl ?_)
   obtain ⟨y2,hx1,hF⟩:=qc hF
   obtain ⟨g1,hx1⟩:=qq3 hx1
   refine d_v (fun _ hb=>qxm g1 rfl rfl) rfl ?_
   rw [hx1]
   refine Y0 4 rfl (qaI (t:=33) hF rfl ?_ ?_)<;>intro hF
   ·refine Y1 4 0 h rfl ?_
    refine Y0 1 rfl ?_
    obtain ⟨r2,hr3,hF⟩:=qc hF
    exact qa3 r2 (vsB _) (cB 62 rfl) (fun _ hb=>qbZ ⟨_,_,rfl,((h.ext hb).oldS s3)⟩ hr3) rfl rfl rfl rfl (zd2 rfl (dN h fun w5 h=>rb h hF rfl))
   exact Y0 5 rfl (dN h fun w6 h=>rb h hF rfl)
  exact Y0 14 rfl (dN h fun w7 h=>rb h hF rfl)
 refine X0 5 rfl (qg rfl hF ?_ ?_)<;>intro hF
 ·refine qcL (rD (zd3 rfl (qaI (t:=42) hF rfl ?_ ?_)))<;>intro hF
  ·refine Y1 4 0 h rfl ?_
   refine Y0 6 rfl (qaI (t:=48) hF rfl ?_ ?_)<;>intro hF
   ·refine Y1 2 0 h rfl ?_
    refine Y0 1 rfl ?_
    obtain ⟨r3,hr4,hF⟩:=qc hF
    refine qa3 r3 (vsB _) (cB 257 rfl) (fun _ hb=>qdT ((h.ext hb).old ha1) hr4) rfl rfl rfl rfl (Y0 4 rfl (qaI (t:=53) hF rfl ?_ ?_))<;>intro hF
    ·refine Y1 2 0 h rfl ?_
     refine Y0 1 rfl ?_
     obtain ⟨r4,hr5,hF⟩:=qc hF
     refine qa3 r4 (vsB _) (cB 257 rfl) (fun _ hb=>qdT ((h.ext hb).old ha1) hr5) rfl rfl rfl rfl (Y1 2 0 h rfl ?_)
     refine Y0 1 rfl ?_
     obtain ⟨r5,hr6,hF⟩:=qc hF
     exact qa3 r5 (vsB _) (cB 257 rfl) (fun _ hb=>qdT ((h.ext hb).old ha1) hr6) rfl rfl rfl rfl (Y0 4 rfl (dN h fun w8 h=>rb h hF rfl))
    exact Y0 7 rfl (dN h fun w9 h=>rb h hF rfl)
   exact Y0 12 rfl (dN h fun w10 h=>rb h hF rfl)
  exact Y0 18 rfl (dN h fun w11 h=>rb h hF rfl)
 refine X0 5 rfl (qg rfl hF ?_ ?_)<;>intro hF
 ·refine X0 5 rfl (qi (t:=64) hF rfl ?_ ?_)<;>intro hF
  ·refine X1 10 0 h rfl (qi (t:=70) hF rfl ?_ ?_)<;>intro hF
   ·refine X1 3 0 h rfl (zcB h hF (qdT (h.old ha1)) rfl fun r6 w12 h hF=>zp2 rfl (qi (t:=74) hF rfl ?_ ?_))<;>intro hF
    ·refine X1 3 0 h rfl (zcB h hF (qdT (h.old ha1)) rfl fun r7 w13 h hF=>zp2 rfl (qi (t:=78) hF rfl ?_ ?_))<;>intro hF
     ·exact X1 3 0 h rfl (zcB h hF (qdT (h.old ha1)) rfl fun r8 w14 h hF=>X0 5 rfl (rb h hF rfl))
     exact X0 6 rfl (rb h hF rfl)
    exact X0 10 rfl (rb h hF rfl)
   exact X0 14 rfl (rb h hF rfl)
  exact X0 20 rfl (rb h hF rfl)
 exact X0 6 rfl (rb h hF rfl)
def qkI (n:Nat) (c:qA):Option Bool :=
 (qhA n c.Bb).bind fun r1 =>
 bif r1 then
  (qjD n c.Bd).bind fun r2 =>
  bif r2 then
   (qf6 n c).bind fun r3 =>
   bif r3 then
    (qaF n c.Ca 0 100000).bind fun r4 =>
    bif r4 then
     (qaF n c.Bu 0 100000).bind fun r5 =>
     bif r5 then
      (qfy n c).bind fun r6 =>
      some r6
     else
      some false
    else
     some false
   else
    some false
  else
   some false
 else
  some false
theorem qp8 {c:qA} (ha1:GoT.R w (old w) c cs1) {r:Bool} (hF:qkI n c=some r):RetV Tryz.prog 204 [GoT.v qA cs1] w r:=by
 obtain ⟨p1,k1,p2,k2,p3,k3,rfl,s1,s2,s3⟩:=qaa ha1
 refine zV 29 Tryz.func204 rfl fun h=>zSR (qt h rfl rfl fun w1 bb1 h=>X1 6 0 h rfl (zcB h hF qj9 rfl fun r1 w2 h hF=>zp1 rfl (qi (t:=6) hF rfl ?_ ?_)))<;>intro hF
 ·refine X1 5 0 h rfl (zcB h hF (qo1 ⟨_,_,rfl,(h.oldS s1)⟩) rfl fun r2 w3 h hF=>zp2 rfl (qi (t:=11) hF rfl ?_ ?_))<;>intro hF
  ·refine X1 3 0 h rfl (zcB h hF (qmj (h.old ha1)) rfl fun r3 w4 h hF=>zp2 rfl (qi (t:=15) hF rfl ?_ ?_))<;>intro hF
   ·refine X1 5 0 h rfl (zcB h hF qat rfl fun r4 w5 h hF=>zp2 rfl (qi (t:=20) hF rfl ?_ ?_))<;>intro hF
    ·refine X1 5 0 h rfl (zcB h hF qat rfl fun r5 w6 h hF=>zp2 rfl (qi (t:=25) hF rfl ?_ ?_))<;>intro hF
     ·exact X1 3 0 h rfl (zcB h hF (ql1 (h.old ha1)) rfl fun r6 w7 h hF=>X0 3 rfl (rb h hF rfl))
     exact X0 5 rfl (rb h hF rfl)
    exact X0 10 rfl (rb h hF rfl)
   exact X0 15 rfl (rb h hF rfl)
  exact X0 19 rfl (rb h hF rfl)
 exact X0 24 rfl (rb h hF rfl)
def qcx (l:qp):Nat→(List ByteArray)→Int→Option (Flow Bool ((List ByteArray) × Int))
 | 0,_,_=>none
 | n+1,x1,i1 =>
  bif decide (i1<(l.Aq.length:Int)) then
   (idx l.Aq i1).bind fun y1 =>
   (qkI n y1).bind fun r1 =>
   bif (!r1) then some (.ret false) else
   (appS x1 ([y1.Bb]:List ByteArray)).bind fun x2 =>
   qcx l n x2 (W64 (i1+1))
  else
   some (.nxt (x1,i1))
def qif (n:Nat) (l:qp):Option Bool :=
 (qcx l n ([]:List ByteArray) 0).bind fun o=>match o with
 | .ret r=>some r
 | .nxt (x1,_) =>
  bif decide ((l.Aq.length:Int)≤8) then
   (qdL n x1).bind fun r2 =>
   some r2
  else
   some false
theorem qnv {l:qp} (ha1:GoT.R w (old w) l cs1) {r:Bool} (hF:qif n l=some r):RetV Tryz.prog 170 [GoT.v qp cs1] w r:=by
 obtain ⟨p1,k1,rfl,s1⟩:=qbr ha1
 refine zV 30 Tryz.func170 rfl fun h=>zSR (qt h rfl rfl fun w1 bb1 h=>X1 14 0 h rfl ?_)
 replace h:=h.nil (α:=ByteArray)
 obtain ⟨o1,hF,hK1⟩:=qc hF
 refine ql (rL (fun m e w'=>∃ (S1:Nat→Prop) (p2:Option Addr) (ln1:Nat) (k2:Nat) (x1:(List ByteArray)) (i1:Int),qcx l m x1 i1=some o1∧e=[(1,.pointer (some ⟨bb1,0,none⟩)),(3,.slice p2 ln1 k2),(7,.slice p1 l.Aq.length k1),(8,.int .i64 (l.Aq.length:Int)),(9,.int .i64 i1)]∧SH w w' [Ch.own S1 (x1:List ByteArray) [.slice p2 ln1 k2],Ch.box bb1 [.slice p1 l.Aq.length k1] 43]) n ⟨_,_,_,_,_,_,hF,rfl,h⟩ rfl ?_)
 rintro m1 e1 w2 ⟨S1,p2,ln1,k2,x1,i1,hF,rfl,h⟩
 obtain rfl:=(h.sl 0 rfl).2
 rcases m1 with _|m1
 ·cases hF
 refine X0 5 rfl (qg rfl hF ?_ ?_)<;>intro hF
 ·refine zKSBSR ?_
  obtain ⟨y1,hy1,hF,he1,b1,_,q1,cs2,hp1,hq1,hr1,hc2⟩:=s1.ix hF
  obtain ⟨p3,k3,p4,k4,p5,k5,rfl,s2,s3,s4⟩:=qaa hr1
  refine zxe hp1 hq1 he1 rfl (zc 0 (hc2.below h.below) rfl (qm qa h rfl rfl rfl fun w3 bb2 h=>zs 0 h rfl fun w4 h=>X1 5 0 h rfl (zcB h hF (qp8 (qjL y1 (h.oldS s2) (h.oldS s3) (h.oldS s4))) rfl fun r1 w5 h hF=>X0 2 rfl (qg rfl hF ?_ ?_))))<;>intro hF
  ·refine X0 4 rfl ?_
   obtain rfl:=qb hF;replace hF:=hK1
   exact rb h hF rfl
  refine X1 5 0 h rfl (qS qa [.tmp 18] _ ([y1.Bb]:List ByteArray) h rfl rfl rfl rfl rfl rfl rfl rfl rfl ⟨rfl,trivial⟩ rfl fun w6 p6 S2 h=>?_)
  obtain ⟨x2,hx1,hF⟩:=qc hF
  obtain ⟨g1,hx1⟩:=qax hx1
  refine qcM qa 2 h rfl (h.sl 0 rfl).1 (h.sl 0 rfl).2 rfl rfl rfl rfl rfl rfl rfl rfl rfl g1 hx1 rfl fun w7 p7 k6 S3 h=>X0 7 rfl ?_
  replace h:=h.pick [2,3] rfl
  exact rK ⟨_,_,_,_,_,_,hF,rfl,h⟩ rfl
 refine qr rfl ?_
 obtain rfl:=qb hF;replace hF:=hK1
 refine X1 7 1 h rfl (qi (t:=26) hF rfl ?_ ?_)<;>intro hF
 ·exact X0 3 rfl (zcB h hF (qeZ (h.own 0 rfl)) rfl fun r2 w8 h hF=>X0 3 rfl (rb h hF rfl))
 exact X0 5 rfl (rb h hF rfl)
def qa8 (d:qd):Nat→(List ByteArray)→Int→Option ((List ByteArray) × Int)
 | 0,_,_=>none
 | n+1,x3,i2 =>
  bif decide (i2<(d.Aj.length:Int)) then
   (idx d.Aj i2).bind fun y2 =>
   (appS x3 ([y2.Bb]:List ByteArray)).bind fun x4 =>
   qa8 d n x4 (W64 (i2+1))
  else
   some (x3,i2)
def qa5 (d:qd):Nat→(List ByteArray)→Int→Option ((List ByteArray) × Int)
 | 0,_,_=>none
 | n+1,x1,i1 =>
  bif decide (i1<(d.Aa.length:Int)) then
   (idx d.Aa i1).bind fun y1 =>
   (appS x1 ([y1.Bb]:List ByteArray)).bind fun x2 =>
   qa5 d n x2 (W64 (i1+1))
  else
   some (x1,i1)
def qeJ (n:Nat) (d:qd):Option Bool :=
 (qa5 d n ([]:List ByteArray) 0).bind fun o=>match o with
 | (x1,_) =>
  (qa8 d n ([]:List ByteArray) 0).bind fun o=>match o with
  | (x3,_) =>
   bif decide ((x1.length:Int)≤14) then
    bif decide ((d.Am.length:Int)≤30) then
     bif decide ((x3.length:Int)≤8) then
      (qdL n x1).bind fun r1 =>
      bif r1 then
       (qdL n d.Am).bind fun r2 =>
       bif r2 then
        (qdL n x3).bind fun r3 =>
        some r3
       else
        some false
      else
       some false
     else
      some false
    else
     some false
   else
    some false
theorem qld {d:qd} (ha1:GoT.R w (old w) d cs1) {r:Bool} (hF:qeJ n d=some r):RetV Tryz.prog 171 [GoT.v qd cs1] w r:=by
 obtain ⟨p1,k1,p2,k2,p3,k3,rfl,s1,s2,s3⟩:=qar ha1
 refine zV 62 Tryz.func171 rfl fun h=>zSR (qt h rfl rfl fun w1 bb1 h=>X1 15 0 h rfl ?_)
 replace h:=h.nil (α:=ByteArray)
 obtain ⟨o1,hF,hK1⟩:=qc hF
 refine ql (rL (fun m e w'=>∃ (S1:Nat→Prop) (p4:Option Addr) (ln1:Nat) (k4:Nat) (x1:(List ByteArray)) (i1:Int),qa5 d m x1 i1=some o1∧e=[(1,.pointer (some ⟨bb1,0,none⟩)),(3,.slice p4 ln1 k4),(4,.slice none 0 0),(10,.slice p1 d.Aa.length k1),(11,.int .i64 (d.Aa.length:Int)),(12,.int .i64 i1)]∧SH w w' [Ch.own S1 (x1:List ByteArray) [.slice p4 ln1 k4],Ch.box bb1 (qaG d p1 p2 p3 k1 k2 k3) 47]) n ⟨_,_,_,_,_,_,hF,rfl,h⟩ rfl ?_)
 rintro m1 e1 w2 ⟨S1,p4,ln1,k4,x1,i1,hF,rfl,h⟩
 obtain rfl:=(h.sl 0 rfl).2
 rcases m1 with _|m1
 ·cases hF
 refine X0 5 rfl (qg rfl hF ?_ ?_)<;>intro hF
 ·refine zKSBSR ?_
  obtain ⟨y1,hy1,hF,he1,b1,_,q1,cs2,hp1,hq1,hr1,hc2⟩:=s1.ix hF
  obtain ⟨p5,k5,rfl,s4⟩:=qL hr1
  refine zxe hp1 hq1 he1 rfl (zc 0 (hc2.below h.below) rfl (qm qa h rfl rfl rfl fun w3 bb2 h=>zs 0 h rfl fun w4 h=>X1 5 0 h rfl (qS qa [.tmp 18] _ ([y1.Bb]:List ByteArray) h rfl rfl rfl rfl rfl rfl rfl rfl rfl ⟨rfl,trivial⟩ rfl fun w5 p6 S2 h=>?_)))
  obtain ⟨x2,hx1,hF⟩:=qc hF
  obtain ⟨g1,hx1⟩:=qax hx1
  refine qcM qa 2 h rfl (h.sl 0 rfl).1 (h.sl 0 rfl).2 rfl rfl rfl rfl rfl rfl rfl rfl rfl g1 hx1 rfl fun w6 p7 k6 S3 h=>X0 7 rfl ?_
  replace h:=h.pick [2,3] rfl
  exact rK ⟨_,_,_,_,_,_,hF,rfl,h⟩ rfl
 refine qr rfl ?_
 obtain rfl:=qb hF;replace hF:=hK1
 refine X1 8 1 h rfl ?_
 replace h:=h.nil (α:=ByteArray)
 obtain ⟨o2,hF,hK2⟩:=qc hF
 refine ql (rL (fun m e w'=>∃ (S4:Nat→Prop) (p8:Option Addr) (ln2:Nat) (k7:Nat) (x3:(List ByteArray)) (i2:Int),qa8 d m x3 i2=some o2∧e=[(1,.pointer (some ⟨bb1,0,none⟩)),(3,.slice p4 x1.length k4),(4,.slice p8 ln2 k7),(23,.slice p3 d.Aj.length k3),(24,.int .i64 (d.Aj.length:Int)),(25,.int .i64 i2)]∧SH w w' [Ch.own S4 (x3:List ByteArray) [.slice p8 ln2 k7],Ch.own S1 (x1:List ByteArray) [.slice p4 x1.length k4],Ch.box bb1 (qaG d p1 p2 p3 k1 k2 k3) 47]) n ⟨_,_,_,_,_,_,hF,rfl,h⟩ rfl ?_)
 rintro m2 e2 w7 ⟨S4,p8,ln2,k7,x3,i2,hF,rfl,h⟩
 obtain rfl:=(h.sl 0 rfl).2
 rcases m2 with _|m2
 ·cases hF
 refine X0 5 rfl (qg rfl hF ?_ ?_)<;>intro hF
 ·refine zKSBSR ?_
  obtain ⟨y2,hy2,hF,he2,b2,_,q2,cs3,hp2,hq2,hr2,hc4⟩:=s3.ix hF
  obtain rfl:=qbd hr2
  refine zxe hp2 hq2 he2 rfl (zc 0 (hc4.below h.below) rfl (qm qa h rfl rfl rfl fun w8 bb3 h=>zs 0 h rfl fun w9 h=>X1 5 0 h rfl (qS qa [.tmp 31] _ ([y2.Bb]:List ByteArray) h rfl rfl rfl rfl rfl rfl rfl rfl rfl ⟨rfl,trivial⟩ rfl fun w10 p9 S5 h=>?_)))
  obtain ⟨x4,hx2,hF⟩:=qc hF
  obtain ⟨g2,hx2⟩:=qax hx2
  refine qcM qa 2 h rfl (h.sl 0 rfl).1 (h.sl 0 rfl).2 rfl rfl rfl rfl rfl rfl rfl rfl rfl g2 hx2 rfl fun w11 p10 k8 S6 h=>X0 7 rfl ?_
  replace h:=h.pick [2,3,4] rfl
  exact rK ⟨_,_,_,_,_,_,hF,rfl,h⟩ rfl
 refine qr rfl ?_
 obtain rfl:=qb hF;replace hF:=hK2
 refine X0 6 rfl (qi (t:=38) hF rfl ?_ ?_)<;>intro hF
 ·refine X1 10 2 h rfl (qi (t:=44) hF rfl ?_ ?_)<;>intro hF
  ·refine X0 8 rfl (qi (t:=49) hF rfl ?_ ?_)<;>intro hF
   ·refine X0 3 rfl (zcB h hF (qeZ (h.own 1 rfl)) rfl fun r1 w12 h hF=>zp2 rfl (qi (t:=53) hF rfl ?_ ?_))<;>intro hF
    ·refine X1 5 2 h rfl (zcB h hF (qeZ ⟨_,_,rfl,(h.oldS s2)⟩) rfl fun r2 w13 h hF=>zp2 rfl (qi (t:=58) hF rfl ?_ ?_))<;>intro hF
     ·exact X0 3 rfl (zcB h hF (qeZ (h.own 0 rfl)) rfl fun r3 w14 h hF=>X0 3 rfl (rb h hF rfl))
     exact X0 5 rfl (rb h hF rfl)
    exact X0 10 rfl (rb h hF rfl)
   exact X0 14 rfl (rb h hF rfl)
  exact X0 19 rfl (rb h hF rfl)
 exact X0 25 rfl (rb h hF rfl)
def qfX (_:Nat) (list:(List qA)):Option Int :=
 some (list.length:Int)
theorem qkR {list:(List qA)} (ha1:GoT.R w (old w) list cs1) {r:Int} (hF:qfX n list=some r):RetV Tryz.prog 206 [GoT.v (List qA) cs1] w r:=by
 obtain ⟨p1,k1,rfl,s1⟩:=ha1
 exact zV 5 Tryz.func206 rfl fun h=>X0 10 rfl (ri h hF rfl)
def qho (_:Nat) (list:(List ByteArray)):Option Int :=
 some (list.length:Int)
theorem ql0 {list:(List ByteArray)} (ha1:GoT.R w (old w) list cs1) {r:Int} (hF:qho n list=some r):RetV Tryz.prog 208 [GoT.v (List ByteArray) cs1] w r:=by
 obtain ⟨p1,k1,rfl,s1⟩:=ha1
 exact zV 5 Tryz.func208 rfl fun h=>X0 10 rfl (ri h hF rfl)
def qdj (n:Nat) (d:qd) (net:Int):Option Bool :=
 (qho n d.Am).bind fun r1 =>
 (qaF n net 0 (W64 (r1-1))).bind fun r2 =>
 some r2
theorem qgg {d:qd} {net:Int} (ha1:GoT.R w (old w) d cs1) {r:Bool} (hF:qdj n d net=some r):RetV Tryz.prog 173 [GoT.v qd cs1,.int .i64 net] w r:=by
 obtain ⟨p1,k1,p2,k2,p3,k3,rfl,s1,s2,s3⟩:=qar ha1
 exact zV 11 Tryz.func173 rfl fun h=>zSR (qt h rfl rfl fun w1 bb1 h=>X1 7 0 h rfl (zcI h hF (ql0 ⟨_,_,rfl,(h.oldS s2)⟩) rfl fun r1 w2 h hF=>zp1 rfl (zcB h hF qat rfl fun r2 w3 h hF=>X0 2 rfl (rb h hF rfl))))
def qc3 (n:Nat) (net:Int) (v0:qd):Option Bool :=
 (qdj n v0 net).bind fun r1 =>
 some (!r1)
theorem qjo {net:Int} {v0:qd} {p1:Option Addr} (ha1:GoT.R w (old w) (some v0) [.pointer p1]) {r:Bool} (hF:qc3 n net v0=some r):RetV Tryz.prog 207 [.int .i64 net,.pointer p1] w r:=by
 obtain ⟨b1,o_1,cs1,rfl,-,hr1,hc1⟩:=PtR.get ha1 rfl
 obtain ⟨p2,k1,p3,k2,p4,k3,rfl,s1,s2,s3⟩:=qar hr1
 exact zV 8 Tryz.func207 rfl fun h=>X0 6 rfl (zc 0 (hc1.below h.below) rfl (zp1 rfl (zcB h hF (qgg (qam v0 (h.oldS s1) (h.oldS s2) (h.oldS s3))) rfl fun r1 w1 h hF=>X0 3 rfl (rb h hF rfl))))
def qG (s:(List Int)) (f_0:qd):Nat→Int→Option (Flow Int Int)
 | 0,_=>none
 | n+1,i1 =>
  bif decide (i1<(s.length:Int)) then
   (idx s i1).bind fun y1 =>
   (qc3 n y1 f_0).bind fun r1 =>
   bif r1 then some (.ret i1) else
   qG s f_0 n (W64 (i1+1))
  else
   some (.nxt i1)
def qaV (n:Nat) (s:(List Int)) (f_0:qd):Option Int :=
 (qG s f_0 n 0).bind fun o=>match o with
 | .ret r=>some r
 | .nxt _ =>
  some (-1)
theorem qd3 {s:(List Int)} {f_0:qd} (ha1:GoT.R w (old w) s cs1) {p2:Option Addr} (ha2:GoT.R w (old w) (some f_0) [.pointer p2]) {r:Int} (hF:qaV n s f_0=some r):RetV Tryz.prog 160 [GoT.v (List Int) cs1,.func (.func 207) #[] #[.pointer p2]] w r:=by
 obtain ⟨p1,k1,rfl,s1⟩:=ha1
 obtain ⟨b1,o_1,cs2,rfl,-,hr1,hc1⟩:=PtR.get ha2 rfl
 obtain ⟨p3,k2,p4,k3,p5,k4,rfl,s2,s3,s4⟩:=qar hr1
 refine zV 19 Tryz.func160 rfl fun h=>X0 11 rfl ?_
 obtain ⟨o1,hF,hK1⟩:=qc hF
 refine ql (rL (fun m e w'=>∃ (i1:Int),qG s f_0 m i1=some o1∧e=[(0,.slice p1 s.length k1),(1,.func (.func 207) #[] #[.pointer (some ⟨b1,o_1,none⟩)]),(7,.int .i64 (s.length:Int)),(8,.int .i64 i1)]∧SH w w' []) n ⟨_,hF,rfl,h⟩ rfl ?_)
 rintro m1 e1 w1 ⟨i1,hF,rfl,h⟩
 rcases m1 with _|m1
 ·cases hF
 refine X0 5 rfl (qg rfl hF ?_ ?_)<;>intro hF
 ·refine X0 13 rfl ?_
  obtain ⟨y1,hy1,hF,he1,b2,_,q1,cs3,hp1,hq1,rfl,hc3⟩:=s1.ix hF
  refine zxe hp1 hq1 he1 rfl (zc 0 (hc3.below h.below) rfl (zcB h hF (qjo (h.old ha2)) rfl fun r1 w2 h hF=>qcr (qg rfl hF ?_ ?_)))<;>intro hF
  ·refine X0 5 rfl ?_
   obtain rfl:=qb hF;replace hF:=hK1
   exact ri h hF rfl
  exact X0 6 rfl (rK ⟨_,hF,rfl,h⟩ rfl)
 refine qr rfl ?_
 obtain rfl:=qb hF;replace hF:=hK1
 exact X0 4 rfl (ri h hF rfl)
def qaK (n:Nat) (s:(List Int)) (f_0:qd):Option Bool :=
 (qaV n s f_0).bind fun r1 =>
 some (decide (r1 ≥ 0))
theorem qdz {s:(List Int)} {f_0:qd} (ha1:GoT.R w (old w) s cs1) {p2:Option Addr} (ha2:GoT.R w (old w) (some f_0) [.pointer p2]) {r:Bool} (hF:qaK n s f_0=some r):RetV Tryz.prog 111 [GoT.v (List Int) cs1,.func (.func 207) #[] #[.pointer p2]] w r:=by
 obtain ⟨p1,k1,rfl,s1⟩:=ha1
 obtain ⟨b1,o_1,cs2,rfl,-,hr1,hc1⟩:=PtR.get ha2 rfl
 obtain ⟨p3,k2,p4,k3,p5,k4,rfl,s2,s3,s4⟩:=qar hr1
 exact zV 9 Tryz.func111 rfl fun h=>X0 8 rfl (zcI h hF (qd3 ⟨_,_,rfl,(h.oldS s1)⟩ (h.old ha2)) rfl fun r1 w1 h hF=>X0 3 rfl (rb h hF rfl))
def qdC (n:Nat) (d:qd) (l:qp) (x:qn):Option Bool :=
 (qfX n l.Aq).bind fun r1 =>
 (qaF n x.Bs 0 (W64 (r1-1))).bind fun r2 =>
 bif r2 then
  (idx l.Aq x.Bs).bind fun y1 =>
  bif ((x.Am.length:Int)==(y1.Bd.length:Int)) then
   (qaK n x.Am d).bind fun r3 =>
   some (!r3)
  else
   some false
 else
  some false
theorem qkp {d:qd} {l:qp} {x:qn} (ha1:GoT.R w (old w) d cs1) (ha2:GoT.R w (old w) l cs2) (ha3:GoT.R w (old w) x cs3) {r:Bool} (hF:qdC n d l x=some r):RetV Tryz.prog 172 [GoT.v qd cs1,GoT.v qp cs2,GoT.v qn cs3] w r:=by
 obtain ⟨p1,k1,p2,k2,p3,k3,rfl,s1,s2,s3⟩:=qar ha1
 obtain ⟨p4,k4,rfl,s4⟩:=qbr ha2
 obtain ⟨p5,k5,rfl,s5⟩:=qL ha3
 refine zV 35 Tryz.func172 rfl fun h=>zSR (qt h rfl rfl fun w1 bb1 h=>qt h rfl rfl fun w2 bb2 h=>qt h rfl rfl fun w3 bb3 h=>X0 3 rfl (rD (Y1 2 0 h rfl ?_)))
 refine Y1 2 1 h rfl ?_
 obtain ⟨r1,hr1,hF⟩:=qc hF
 refine qa3 r1 (vsI _) (cB 206 rfl) (fun _ hb=>qkR ⟨_,_,rfl,((h.ext hb).oldS s4)⟩ hr1) rfl rfl rfl rfl (zd1 rfl ?_)
 obtain ⟨r2,hr2,hF⟩:=qc hF
 refine qa3 r2 (vsB _) (cB 115 rfl) (fun _ hb=>qat  hr2) rfl rfl rfl rfl (zd1 rfl (qaI (t:=14) hF rfl ?_ ?_))<;>intro hF
 ·refine Y1 4 0 h rfl ?_
  refine Y1 6 1 h rfl ?_
  refine Y1 4 0 h rfl ?_
  refine Y0 1 rfl ?_
  obtain ⟨y1,hy1,hF,he1,b1,_,q1,cs4,hp1,hq1,hr3,hc1⟩:=s4.ix hF
  obtain ⟨p6,k6,p7,k7,p8,k8,rfl,s6,s7,s8⟩:=qaa hr3
  refine zdxe hp1 hq1 he1 rfl (Y0 3 rfl (zdc 2 (hc1.below h.below) rfl (Y0 6 rfl (qaI (t:=28) hF rfl ?_ ?_))))<;>intro hF
  ·refine Y1 4 0 h rfl ?_
   refine Y0 3 rfl ?_
   obtain ⟨r3,hr4,hF⟩:=qc hF
   exact qa3 r3 (vsB _) (cB 111 rfl) (fun _ hb=>qdz ⟨_,_,rfl,((h.ext hb).oldS s5)⟩ (qgo (x:=d) 2 (h.ext hb) rfl ((h.ext hb).old ha1)) hr4) rfl rfl rfl rfl (Y0 4 rfl (dN h fun w4 h=>rb h hF rfl))
  exact Y0 7 rfl (dN h fun w5 h=>rb h hF rfl)
 exact Y0 21 rfl (dN h fun w6 h=>rb h hF rfl)
def qjm (_:Nat) (a_n:Int):Option Bool :=
 some (a_n != 1)
theorem qng {a_n:Int}  {r:Bool} (hF:qjm n a_n=some r):RetV Tryz.prog 175 [.int .i64 a_n] w r:=by
 exact zV 5 Tryz.func175 rfl fun h=>X0 10 rfl (rb h hF rfl)
def qag (s:(List Int)):Nat→Int→Option (Flow Int Int)
 | 0,_=>none
 | n+1,i1 =>
  bif decide (i1<(s.length:Int)) then
   (idx s i1).bind fun y1 =>
   (qjm n y1).bind fun r1 =>
   bif r1 then some (.ret i1) else
   qag s n (W64 (i1+1))
  else
   some (.nxt i1)
def qbX (n:Nat) (s:(List Int)):Option Int :=
 (qag s n 0).bind fun o=>match o with
 | .ret r=>some r
 | .nxt _ =>
  some (-1)
theorem qf9 {s:(List Int)} (ha1:GoT.R w (old w) s cs1) {r:Int} (hF:qbX n s=some r):RetV Tryz.prog 209 [GoT.v (List Int) cs1,.func (.func 175) #[] #[]] w r:=by
 obtain ⟨p1,k1,rfl,s1⟩:=ha1
 refine zV 19 Tryz.func209 rfl fun h=>X0 11 rfl ?_
 obtain ⟨o1,hF,hK1⟩:=qc hF
 refine ql (rL (fun m e w'=>∃ (i1:Int),qag s m i1=some o1∧e=[(0,.slice p1 s.length k1),(1,.func (.func 175) #[] #[]),(7,.int .i64 (s.length:Int)),(8,.int .i64 i1)]∧SH w w' []) n ⟨_,hF,rfl,h⟩ rfl ?_)
 rintro m1 e1 w1 ⟨i1,hF,rfl,h⟩
 rcases m1 with _|m1
 ·cases hF
 refine X0 5 rfl (qg rfl hF ?_ ?_)<;>intro hF
 ·refine X0 13 rfl ?_
  obtain ⟨y1,hy1,hF,he1,b1,_,q1,cs2,hp1,hq1,rfl,hc2⟩:=s1.ix hF
  refine zxe hp1 hq1 he1 rfl (zc 0 (hc2.below h.below) rfl (zcB h hF qng rfl fun r1 w2 h hF=>qcr (qg rfl hF ?_ ?_)))<;>intro hF
  ·refine X0 5 rfl ?_
   obtain rfl:=qb hF;replace hF:=hK1
   exact ri h hF rfl
  exact X0 6 rfl (rK ⟨_,hF,rfl,h⟩ rfl)
 refine qr rfl ?_
 obtain rfl:=qb hF;replace hF:=hK1
 exact X0 4 rfl (ri h hF rfl)
def qbB (n:Nat) (s:(List Int)):Option Bool :=
 (qbX n s).bind fun r1 =>
 some (decide (r1 ≥ 0))
theorem qfr {s:(List Int)} (ha1:GoT.R w (old w) s cs1) {r:Bool} (hF:qbB n s=some r):RetV Tryz.prog 174 [GoT.v (List Int) cs1,.func (.func 175) #[] #[]] w r:=by
 obtain ⟨p1,k1,rfl,s1⟩:=ha1
 exact zV 9 Tryz.func174 rfl fun h=>X0 8 rfl (zcI h hF (qf9 ⟨_,_,rfl,(h.oldS s1)⟩) rfl fun r1 w1 h hF=>X0 3 rfl (rb h hF rfl))
def qca (a_1:qd):Nat→(List Int)→Int→Option (Flow Bool ((List Int) × Int))
 | 0,_,_=>none
 | n+1,x3,i2 =>
  bif decide (i2<(a_1.Aj.length:Int)) then
   (idx a_1.Aj i2).bind fun y5 =>
   (
    bif (y5.Bv != 1) then
     bif (y5.Bv != 2) then some true else
     (qdj n a_1 y5.Bx).bind fun r2 =>
     some (!r2)
    else
     (qdj n a_1 y5.Bx).bind fun r3 =>
     some (!r3)).bind fun b7 =>
   bif b7 then some (.ret false) else
   bif (y5.Bv==1) then
    (idx x3 y5.Bx).bind fun y6 =>
    (idx x3 y5.Bx).bind fun _ =>
    qca a_1 n (setS x3 y5.Bx (W64 (y6+1))) (W64 (i2+1))
   else
    qca a_1 n x3 (W64 (i2+1))
  else
   some (.nxt (x3,i2))
def qcU (a_0:qp) (a_1:qd):Nat→(List Int)→Int→Option (Flow Bool ((List Int) × Int))
 | 0,_,_=>none
 | n+1,x2,i1 =>
  bif decide (i1<(a_1.Aa.length:Int)) then
   (idx a_1.Aa i1).bind fun y1 =>
   (qdC n a_1 a_0 y1).bind fun r1 =>
   bif (!r1) then some (.ret false) else
   (idx y1.Am (W64 ((y1.Am.length:Int)-1))).bind fun y2 =>
   (idx x2 y2).bind fun y3 =>
   (idx x2 y2).bind fun _ =>
   qcU a_0 a_1 n (setS x2 y2 (W64 (y3+1))) (W64 (i1+1))
  else
   some (.nxt (x2,i1))
def qiA (n:Nat) (a_0:qp) (a_1:qd):Option Bool :=
 (
  (qif n a_0).bind fun r5 =>
  bif (!r5) then some true else
  (qeJ n a_1).bind fun r6 =>
  some (!r6)).bind fun b1 =>
 bif b1 then some false else
 (mkS (a_1.Am.length:Int) (0:Int)).bind fun x1 =>
 (qcU a_0 a_1 n x1 0).bind fun o=>match o with
 | .ret r=>some r
 | .nxt (x2,_) =>
  (qca a_1 n x2 0).bind fun o=>match o with
  | .ret r=>some r
  | .nxt (x3,_) =>
   (qbB n x3).bind fun r4 =>
   some (!r4)
theorem qoK {a_0:qp} {a_1:qd} (ha1:GoT.R w (old w) a_0 cs1) (ha2:GoT.R w (old w) a_1 cs2) {r:Bool} (hF:qiA n a_0 a_1=some r):RetV Tryz.prog 134 [GoT.v qp cs1,GoT.v qd cs2] w r:=by
 obtain ⟨p1,k1,rfl,s1⟩:=qbr ha1
 obtain ⟨p2,k2,p3,k3,p4,k4,rfl,s2,s3,s4⟩:=qar ha2
 refine zV 84 Tryz.func134 rfl fun h=>zSR (qt h rfl rfl fun w1 bb1 h=>qt h rfl rfl fun w2 bb2 h=>X0 4 rfl ?_)
 obtain ⟨KF2,hKF2,o4,hF,hK4⟩:=bindE hF
 refine qbk (fun e w'=>∃ (b1:Bool),KF2 b1=some r∧e=[(2,.pointer (some ⟨bb1,0,none⟩)),(3,.pointer (some ⟨bb2,0,none⟩)),(17,.bool b1)]∧SH w w' [Ch.box bb2 (qaG a_1 p2 p3 p4 k2 k3 k4) 47,Ch.box bb1 [.slice p1 a_0.Aq.length k1] 43]) ?_ ?_
 ·refine X1 2 1 h rfl (zcB h hF (qnv (h.old ha1)) rfl fun r5 w17 h hF=>zp2 rfl (qi (t:=13) hF rfl ?_ ?_))<;>intro hF
  ·refine X0 5 rfl ?_
   obtain rfl:=qb hF
   exact rG ⟨_,hK4,rfl,h⟩ rfl
  refine X1 3 0 h rfl (zcB h hF (qld (h.old ha2)) rfl fun r6 w18 h hF=>X0 4 rfl ?_)
  obtain rfl:=qb hF
  exact rG ⟨_,hK4,rfl,h⟩ rfl
 rintro e4 w19 ⟨b1,hF,rfl,h⟩
 subst hKF2
 refine qg rfl hF ?_ ?_<;>intro hF
 ·exact X0 4 rfl (rb h hF rfl)
 refine X1 6 0 h rfl ?_
 obtain ⟨x1,hx1,hF⟩:=qc hF
 obtain ⟨g1,g2,hx1⟩:=qM hx1
 refine qaf qa Int h rfl rfl rfl rfl rfl rfl rfl rfl rfl g1 g2 hx1 rfl fun w3 S1 p5 h=>X1 10 1 h rfl ?_
 obtain ⟨o1,hF,hK1⟩:=qc hF
 refine ql (rL (fun m e w'=>∃ (x2:(List Int)) (i1:Int),qcU a_0 a_1 m x2 i1=some o1∧e=[(2,.pointer (some ⟨bb1,0,none⟩)),(3,.pointer (some ⟨bb2,0,none⟩)),(5,.slice p5 x1.length x1.length),(23,.slice p2 a_1.Aa.length k2),(24,.int .i64 (a_1.Aa.length:Int)),(25,.int .i64 i1)]∧SH w w' [Ch.own S1 (x2:List Int) [.slice p5 x1.length x1.length],Ch.box bb2 (qaG a_1 p2 p3 p4 k2 k3 k4) 47,Ch.box bb1 [.slice p1 a_0.Aq.length k1] 43]) n ⟨_,_,hF,rfl,h⟩ rfl ?_)
 rintro m1 e1 w4 ⟨x2,i1,hF,rfl,h⟩
 rcases m1 with _|m1
 ·cases hF
 refine X0 5 rfl (qg rfl hF ?_ ?_)<;>intro hF
 ·refine zKSBSR ?_
  obtain ⟨y1,hy1,hF,he1,b2,_,q1,cs3,hp1,hq1,hr1,hc3⟩:=s2.ix hF
  obtain ⟨p6,k5,rfl,s5⟩:=qL hr1
  refine zxe hp1 hq1 he1 rfl (zc 0 (hc3.below h.below) rfl (qm qa h rfl rfl rfl fun w5 bb3 h=>zs 0 h rfl fun w6 h=>X3 7 2 3 0 h rfl (zcB h hF (qkp (h.old ha2) (h.old ha1) (qfU y1 (h.oldS s5))) rfl fun r1 w7 h hF=>X0 2 rfl (qg rfl hF ?_ ?_))))<;>intro hF
  ·refine X0 4 rfl ?_
   obtain rfl:=qb hF;replace hF:=hK1
   exact rb h hF rfl
  refine X2 9 0 0 h rfl ?_
  obtain ⟨y2,hy2,hF,he2,b3,_,q2,cs4,hp2,hq2,rfl,hc5⟩:=s5.ix hF
  refine zxe hp2 hq2 he2 rfl (zc 0 (hc5.below h.below) rfl ?_)
  obtain ⟨y3,hy3,hF,he3,b4,_,q3,cs5,hp3,hq3,rfl,hc6⟩:=(h.sl 1 rfl).1.ix hF
  refine zx hp3 hq3 ⟨he3.1,qT he3.2.1 (h.sl 1 rfl).2⟩ rfl (zc 0 hc6 rfl (zp1 rfl ?_))
  obtain ⟨y4,hy4,hF,he4,b5,_,q4,cs6,hp4,hq4,rfl,hc7⟩:=(h.sl 1 rfl).1.ix hF
  refine zx hp4 hq4 ⟨he4.1,qT he4.2.1 (h.sl 1 rfl).2⟩ rfl (qbq qa 1 0 (W64 (y3+1)) h rfl hy4 hp4 hq4 rfl hc7 rfl rfl rfl rfl rfl rfl rfl fun w8 h=>X0 6 rfl ?_)
  replace h:=h.pick [1,2,3] rfl
  exact rK ⟨_,_,hF,rfl,h⟩ rfl
 refine qr rfl ?_
 obtain rfl:=qb hF;replace hF:=hK1
 refine X1 8 1 h rfl ?_
 obtain ⟨o2,hF,hK2⟩:=qc hF
 refine ql ?_
 replace h:=h.pick [0,1] rfl
 refine rL (fun m e w'=>∃ (x3:(List Int)) (i2:Int),qca a_1 m x3 i2=some o2∧e=[(3,.pointer (some ⟨bb2,0,none⟩)),(5,.slice p5 x1.length x1.length),(49,.slice p4 a_1.Aj.length k4),(50,.int .i64 (a_1.Aj.length:Int)),(51,.int .i64 i2)]∧SH w w' [Ch.own S1 (x3:List Int) [.slice p5 x1.length x1.length],Ch.box bb2 (qaG a_1 p2 p3 p4 k2 k3 k4) 47]) n ⟨_,_,hF,rfl,h⟩ rfl ?_
 rintro m2 e2 w9 ⟨x3,i2,hF,rfl,h⟩
 rcases m2 with _|m2
 ·cases hF
 refine X0 5 rfl (qg rfl hF ?_ ?_)<;>intro hF
 ·refine zKSBSR ?_
  obtain ⟨y5,hy5,hF,he5,b6,_,q5,cs7,hp5,hq5,hr6,hc9⟩:=s4.ix hF
  obtain rfl:=qbd hr6
  refine zxe hp5 hq5 he5 rfl (zc 0 (hc9.below h.below) rfl (qm qa h rfl rfl rfl fun w10 bb4 h=>zs 0 h rfl fun w11 h=>zNSS ?_))
  obtain ⟨KF1,hKF1,o3,hF,hK3⟩:=bindE hF
  refine qbk (fun e w'=>∃ (b7:Bool),KF1 b7=some o2∧e=[(3,.pointer (some ⟨bb2,0,none⟩)),(5,.slice p5 x1.length x1.length),(9,.pointer (some ⟨bb4,0,none⟩)),(49,.slice p4 a_1.Aj.length k4),(50,.int .i64 (a_1.Aj.length:Int)),(51,.int .i64 i2),(69,.bool b7)]∧SH w w' [Ch.box bb4 (qpy y5) 234,Ch.own S1 (x3:List Int) [.slice p5 x1.length x1.length],Ch.box bb2 (qaG a_1 p2 p3 p4 k2 k3 k4) 47]) ?_ ?_
  ·refine X1 5 0 h rfl (qi (t:=58) hF rfl ?_ ?_)<;>intro hF
   ·refine X1 8 0 h rfl (qi (t:=63) hF rfl ?_ ?_)<;>intro hF
    ·refine X0 7 rfl ?_
     obtain rfl:=qb hF
     exact rG ⟨_,hK3,rfl,h⟩ rfl
    refine X2 7 2 0 h rfl (zcB h hF (qgg (h.old ha2)) rfl fun r2 w13 h hF=>X0 4 rfl ?_)
    obtain rfl:=qb hF
    exact rG ⟨_,hK3,rfl,h⟩ rfl
   refine X2 12 2 0 h rfl (zcB h hF (qgg (h.old ha2)) rfl fun r3 w14 h hF=>X0 4 rfl ?_)
   obtain rfl:=qb hF
   exact rG ⟨_,hK3,rfl,h⟩ rfl
  rintro e3 w15 ⟨b7,hF,rfl,h⟩
  subst hKF1
  refine qg rfl hF ?_ ?_<;>intro hF
  ·refine X0 4 rfl ?_
   obtain rfl:=qb hF;replace hF:=hK2
   exact rb h hF rfl
  refine X1 7 0 h rfl (qg rfl hF ?_ ?_)<;>intro hF
  ·refine X1 4 0 h rfl ?_
   obtain ⟨y6,hy6,hF,he6,b8,_,q6,cs8,hp6,hq6,rfl,hc12⟩:=(h.sl 1 rfl).1.ix hF
   refine zx hp6 hq6 ⟨he6.1,qT he6.2.1 (h.sl 1 rfl).2⟩ rfl (zc 0 hc12 rfl (zp1 rfl ?_))
   obtain ⟨y7,hy7,hF,he7,b9,_,q7,cs9,hp7,hq7,rfl,hc13⟩:=(h.sl 1 rfl).1.ix hF
   refine zx hp7 hq7 ⟨he7.1,qT he7.2.1 (h.sl 1 rfl).2⟩ rfl (qbq qa 1 0 (W64 (y6+1)) h rfl hy7 hp7 hq7 rfl hc13 rfl rfl rfl rfl rfl rfl rfl fun w12 h=>X0 6 rfl ?_)
   replace h:=h.pick [1,2] rfl
   exact rK ⟨_,_,hF,rfl,h⟩ rfl
  refine X0 6 rfl ?_
  replace h:=h.pick [1,2] rfl
  exact rK ⟨_,_,hF,rfl,h⟩ rfl
 refine qr rfl ?_
 obtain rfl:=qb hF;replace hF:=hK2
 exact X0 3 rfl (zcB h hF (qfr (h.own 0 rfl)) rfl fun r4 w16 h hF=>X0 3 rfl (rb h hF rfl))
def qbu (i1:Int) (y1:qn):Nat→(List Tplace)→Int→Option ((List Tplace) × Int)
 | 0,_,_=>none
 | n+1,x2,i2 =>
  bif decide (i2<(y1.Am.length:Int)) then
   (idx y1.Am i2).bind fun y2 =>
   (appS x2 ([(⟨i1,i2,y2,(i2==(W64 ((y1.Am.length:Int)-1)))⟩:Tplace)]:List Tplace)).bind fun x3 =>
   qbu i1 y1 n x3 (W64 (i2+1))
  else
   some (x2,i2)
def qbx (d:qd):Nat→(List Tplace)→Int→Option ((List Tplace) × Int)
 | 0,_,_=>none
 | n+1,x4,i3 =>
  bif decide (i3<(d.Aj.length:Int)) then
   (idx d.Aj i3).bind fun y3 =>
   (appS x4 ([(⟨(-1),i3,y3.Bx,(y3.Bv==1)⟩:Tplace)]:List Tplace)).bind fun x5 =>
   qbx d n x5 (W64 (i3+1))
  else
   some (x4,i3)
def qbz (d:qd):Nat→(List Tplace)→Int→Option ((List Tplace) × Int)
 | 0,_,_=>none
 | n+1,x1,i1 =>
  bif decide (i1<(d.Aa.length:Int)) then
   (idx d.Aa i1).bind fun y1 =>
   (qbu i1 y1 n x1 0).bind fun o=>match o with
   | (x2,_) =>
    qbz d n x2 (W64 (i1+1))
  else
   some (x1,i1)
def qb9 (n:Nat) (d:qd):Option (List Tplace) :=
 (qbz d n ([]:List Tplace) 0).bind fun o=>match o with
 | (x1,_) =>
  (qbx d n x1 0).bind fun o=>match o with
  | (x4,_) =>
   some x4
theorem qec {d:qd} (ha1:GoT.R w (old w) d cs1) {r:(List Tplace)} (hF:qb9 n d=some r):RetV Tryz.prog 135 [GoT.v qd cs1] w r:=by
 obtain ⟨p1,k1,p2,k2,p3,k3,rfl,s1,s2,s3⟩:=qar ha1
 refine zV 61 Tryz.func135 rfl fun h=>zSR (qt h rfl rfl fun w1 bb1 h=>X1 14 0 h rfl ?_)
 replace h:=h.nil (α:=Tplace)
 obtain ⟨o1,hF,hK1⟩:=qc hF
 refine ql (rL (fun m e w'=>∃ (S1:Nat→Prop) (p4:Option Addr) (ln1:Nat) (k4:Nat) (x1:(List Tplace)) (i1:Int),qbz d m x1 i1=some o1∧e=[(1,.pointer (some ⟨bb1,0,none⟩)),(3,.slice p4 ln1 k4),(11,.slice p1 d.Aa.length k1),(12,.int .i64 (d.Aa.length:Int)),(13,.int .i64 i1)]∧SH w w' [Ch.own S1 (x1:List Tplace) [.slice p4 ln1 k4],Ch.box bb1 (qaG d p1 p2 p3 k1 k2 k3) 47]) n ⟨_,_,_,_,_,_,hF,rfl,h⟩ rfl ?_)
 rintro m1 e1 w2 ⟨S1,p4,ln1,k4,x1,i1,hF,rfl,h⟩
 obtain rfl:=(h.sl 0 rfl).2
 rcases m1 with _|m1
 ·cases hF
 refine X0 5 rfl (qg rfl hF ?_ ?_)<;>intro hF
 ·refine X0 6 rfl ?_
  obtain ⟨y1,hy1,hF,he1,b1,_,q1,cs2,hp1,hq1,hr1,hc2⟩:=s1.ix hF
  obtain ⟨p5,k5,rfl,s4⟩:=qL hr1
  refine zxe hp1 hq1 he1 rfl (zc 0 (hc2.below h.below) rfl (qm qa h rfl rfl rfl fun w3 bb2 h=>zp1 rfl (zs 0 h rfl fun w4 h=>X1 8 0 h rfl ?_)))
  obtain ⟨o2,hF,hK2⟩:=qc hF
  refine ql (rL (fun m e w'=>∃ (S2:Nat→Prop) (p6:Option Addr) (ln2:Nat) (k6:Nat) (x2:(List Tplace)) (i2:Int),qbu i1 y1 m x2 i2=some o2∧e=[(1,.pointer (some ⟨bb1,0,none⟩)),(3,.slice p6 ln2 k6),(4,.int .i64 i1),(5,.pointer (some ⟨bb2,0,none⟩)),(11,.slice p1 d.Aa.length k1),(12,.int .i64 (d.Aa.length:Int)),(13,.int .i64 i1),(19,.slice p5 y1.Am.length k5),(20,.int .i64 (y1.Am.length:Int)),(21,.int .i64 i2)]∧SH w w' [Ch.box bb2 (qja y1 p5 k5) 168,Ch.own S2 (x2:List Tplace) [.slice p6 ln2 k6],Ch.box bb1 (qaG d p1 p2 p3 k1 k2 k3) 47]) m1 ⟨_,_,_,_,_,_,hF,rfl,h⟩ rfl ?_)
  rintro m2 e2 w5 ⟨S2,p6,ln2,k6,x2,i2,hF,rfl,h⟩
  obtain rfl:=(h.sl 1 rfl).2
  rcases m2 with _|m2
  ·cases hF
  refine X0 5 rfl (qg rfl hF ?_ ?_)<;>intro hF
  ·refine X0 6 rfl ?_
   obtain ⟨y2,hy2,hF,he2,b2,_,q2,cs3,hp2,hq2,rfl,hc4⟩:=s4.ix hF
   refine zxe hp2 hq2 he2 rfl (zc 0 (hc4.below h.below) rfl (X1 14 0 h rfl (r_v (qV qa [0,1,2,3] [.tmp 27,.tmp 28,.tmp 29,.tmp 35] rfl rfl rfl rfl rfl rfl rfl rfl) rfl (qS qa [.tmp 36] _ ([(⟨i1,i2,y2,(i2==(W64 ((y1.Am.length:Int)-1)))⟩:Tplace)]:List Tplace) h rfl rfl rfl rfl rfl rfl rfl rfl rfl ⟨(qlN (⟨i1,i2,y2,(i2==(W64 ((y1.Am.length:Int)-1)))⟩:Tplace)),trivial⟩ rfl fun w6 p7 S3 h=>?_))))
   obtain ⟨x3,hx1,hF⟩:=qc hF
   obtain ⟨g1,hx1⟩:=qax hx1
   refine qcM qa 2 h rfl (h.sl 0 rfl).1 (h.sl 0 rfl).2 rfl rfl rfl rfl rfl rfl rfl rfl rfl g1 hx1 rfl fun w7 p8 k7 S4 h=>X0 7 rfl ?_
   replace h:=h.pick [1,2,3] rfl
   exact rK ⟨_,_,_,_,_,_,hF,rfl,h⟩ rfl
  refine qr rfl ?_
  obtain rfl:=qb hF;replace hF:=hK2
  refine X0 5 rfl ?_
  replace h:=h.pick [1,2] rfl
  exact rK ⟨_,_,_,_,_,_,hF,rfl,h⟩ rfl
 refine qr rfl ?_
 obtain rfl:=qb hF;replace hF:=hK1
 refine X1 8 1 h rfl ?_
 obtain ⟨o3,hF,hK3⟩:=qc hF
 refine ql ?_
 replace h:=h.pick [0] rfl
 refine rL (fun m e w'=>∃ (S5:Nat→Prop) (p9:Option Addr) (ln3:Nat) (k8:Nat) (x4:(List Tplace)) (i3:Int),qbx d m x4 i3=some o3∧e=[(3,.slice p9 ln3 k8),(42,.slice p3 d.Aj.length k3),(43,.int .i64 (d.Aj.length:Int)),(44,.int .i64 i3)]∧SH w w' [Ch.own S5 (x4:List Tplace) [.slice p9 ln3 k8]]) n ⟨_,_,_,_,_,_,hF,rfl,h⟩ rfl ?_
 rintro m3 e3 w8 ⟨S5,p9,ln3,k8,x4,i3,hF,rfl,h⟩
 obtain rfl:=(h.sl 0 rfl).2
 rcases m3 with _|m3
 ·cases hF
 refine X0 5 rfl (qg rfl hF ?_ ?_)<;>intro hF
 ·refine X0 6 rfl ?_
  obtain ⟨y3,hy3,hF,he3,b3,_,q3,cs4,hp3,hq3,hr3,hc6⟩:=s3.ix hF
  obtain rfl:=qbd hr3
  refine zxe hp3 hq3 he3 rfl (zc 0 (hc6.below h.below) rfl (qm qa h rfl rfl rfl fun w9 bb3 h=>zp1 rfl (zs 0 h rfl fun w10 h=>X2 9 0 0 h rfl (r_v (qV qa [0,1,2,3] [.const (.int .i64 (-1)),.tmp 50,.tmp 52,.tmp 55] rfl rfl rfl rfl rfl rfl rfl rfl) rfl (qS qa [.tmp 56] _ ([(⟨(-1),i3,y3.Bx,(y3.Bv==1)⟩:Tplace)]:List Tplace) h rfl rfl rfl rfl rfl rfl rfl rfl rfl ⟨(qlN (⟨(-1),i3,y3.Bx,(y3.Bv==1)⟩:Tplace)),trivial⟩ rfl fun w11 p10 S6 h=>?_)))))
  obtain ⟨x5,hx2,hF⟩:=qc hF
  obtain ⟨g2,hx2⟩:=qax hx2
  refine qcM qa 2 h rfl (h.sl 0 rfl).1 (h.sl 0 rfl).2 rfl rfl rfl rfl rfl rfl rfl rfl rfl g2 hx2 rfl fun w12 p11 k9 S7 h=>X0 7 rfl ?_
  replace h:=h.pick [2] rfl
  exact rK ⟨_,_,_,_,_,_,hF,rfl,h⟩ rfl
 refine qr rfl ?_
 obtain rfl:=qb hF;replace hF:=hK3
 refine X0 5 rfl ?_
 obtain rfl:=qb hF
 exact rO 0 h rfl ⟨rfl,trivial⟩
def qa0 (a_w:qO):Nat→Int→Option (Flow Bool Int)
 | 0,_=>none
 | n+1,i1 =>
  bif decide (i1<(a_w.Ak.length:Int)) then
   (idx a_w.Ak i1).bind fun y1 =>
   bif (i1==0) then
    bif (y1 != (-1)) then some (.ret false) else
    (idx a_w.Bw 0).bind fun y2 =>
    bif (y2 != 0) then some (.ret false) else
    bif decide (i1 > 0) then
     (qaF n y1 0 (W64 (i1-1))).bind fun r1 =>
     bif (!r1) then some (.ret false) else
     qa0 a_w n (W64 (i1+1))
    else
     qa0 a_w n (W64 (i1+1))
   else
    bif decide (i1 > 0) then
     (qaF n y1 0 (W64 (i1-1))).bind fun r2 =>
     bif (!r2) then some (.ret false) else
     qa0 a_w n (W64 (i1+1))
    else
     qa0 a_w n (W64 (i1+1))
  else
   some (.nxt i1)
def qgu (n:Nat) (a_w:qO):Option Bool :=
 (qa0 a_w n 0).bind fun o=>match o with
 | .ret r=>some r
 | .nxt _ =>
  some true
theorem qm3 {a_w:qO} (ha1:GoT.R w (old w) a_w cs1) {r:Bool} (hF:qgu n a_w=some r):RetV Tryz.prog 176 [GoT.v qO cs1] w r:=by
 obtain ⟨p1,k1,p2,k2,p3,k3,p4,k4,rfl,s1,s2,s3,s4⟩:=qaJ ha1
 refine zV 38 Tryz.func176 rfl fun h=>zSR (qt h rfl rfl fun w1 bb1 h=>X1 10 0 h rfl ?_)
 obtain ⟨o1,hF,hK1⟩:=qc hF
 refine ql (rL (fun m e w'=>∃ (i1:Int),qa0 a_w m i1=some o1∧e=[(1,.pointer (some ⟨bb1,0,none⟩)),(6,.slice p1 a_w.Ak.length k1),(7,.int .i64 (a_w.Ak.length:Int)),(8,.int .i64 i1)]∧SH w w' [Ch.box bb1 (qf4 a_w p1 p2 p3 p4 k1 k2 k3 k4) 186]) n ⟨_,hF,rfl,h⟩ rfl ?_)
 rintro m1 e1 w2 ⟨i1,hF,rfl,h⟩
 rcases m1 with _|m1
 ·cases hF
 refine X0 5 rfl (qg rfl hF ?_ ?_)<;>intro hF
 ·refine X0 6 rfl ?_
  obtain ⟨y1,hy1,hF,he1,b1,_,q1,cs2,hp1,hq1,rfl,hc2⟩:=s1.ix hF
  refine zxe hp1 hq1 he1 rfl (zc 0 (hc2.below h.below) rfl (X0 8 rfl (qi (t:=15) hF rfl ?_ ?_)))<;>intro hF
  ·refine X0 6 rfl (qi (t:=18) hF rfl ?_ ?_)<;>intro hF
   ·refine X0 20 rfl (qbS rfl rfl (X0 4 rfl ?_))
    obtain rfl:=qb hF;replace hF:=hK1
    exact rb h hF rfl
   refine X1 5 0 h rfl ?_
   obtain ⟨y2,hy2,hF,he2,b2,_,q2,cs3,hp2,hq2,rfl,hc3⟩:=s2.ix hF
   refine zxe hp2 hq2 he2 rfl (X0 1 rfl (zc 0 (hc3.below h.below) rfl (X0 6 rfl (qi (t:=26) hF rfl ?_ ?_))))<;>intro hF
   ·refine X0 11 rfl (qbS rfl rfl (X0 4 rfl ?_))
    obtain rfl:=qb hF;replace hF:=hK1
    exact rb h hF rfl
   refine X0 6 rfl (qi (t:=29) hF rfl ?_ ?_)<;>intro hF
   ·refine X0 7 rfl (zcB h hF qat rfl fun r1 w3 h hF=>X0 6 rfl (qg rfl hF ?_ ?_))<;>intro hF
    ·refine X0 4 rfl ?_
     obtain rfl:=qb hF;replace hF:=hK1
     exact rb h hF rfl
    exact X0 6 rfl (rK ⟨_,hF,rfl,h⟩ rfl)
   exact X0 9 rfl (qbR rfl rfl (X0 6 rfl (rK ⟨_,hF,rfl,h⟩ rfl)))
  refine X0 17 rfl (qi (t:=29) hF rfl ?_ ?_)<;>intro hF
  ·refine X0 7 rfl (zcB h hF qat rfl fun r2 w4 h hF=>X0 6 rfl (qg rfl hF ?_ ?_))<;>intro hF
   ·refine X0 4 rfl ?_
    obtain rfl:=qb hF;replace hF:=hK1
    exact rb h hF rfl
   exact X0 6 rfl (rK ⟨_,hF,rfl,h⟩ rfl)
  exact X0 9 rfl (qbR rfl rfl (X0 6 rfl (rK ⟨_,hF,rfl,h⟩ rfl)))
 refine qr rfl ?_
 obtain rfl:=qb hF;replace hF:=hK1
 exact X0 4 rfl (rb h hF rfl)
def qks (n:Nat) (a_w:qO) (sinks:Int):Option Bool :=
 (qbg n a_w.Ak).bind fun r1 =>
 (qaF n r1 1 8).bind fun r2 =>
 bif r2 then
  (qbg n a_w.Bw).bind fun r3 =>
  bif (r3==r1) then
   (qbg n a_w.Bt).bind fun r4 =>
   bif (r4==r1) then
    (qgu n a_w).bind fun r5 =>
    bif r5 then
     (qbH n a_w.Bw 0 1000).bind fun r6 =>
     bif r6 then
      (qbH n a_w.Bt 0 500).bind fun r7 =>
      bif r7 then
       (qbg n a_w.Bl).bind fun r8 =>
       bif (r8==sinks) then
        (qbH n a_w.Bl 0 (W64 (r1-1))).bind fun r9 =>
        some r9
       else
        some false
      else
       some false
     else
      some false
    else
     some false
   else
    some false
  else
   some false
 else
  some false
theorem qqi {a_w:qO} {sinks:Int} (ha1:GoT.R w (old w) a_w cs1) {r:Bool} (hF:qks n a_w sinks=some r):RetV Tryz.prog 136 [GoT.v qO cs1,.int .i64 sinks] w r:=by
 obtain ⟨p1,k1,p2,k2,p3,k3,p4,k4,rfl,s1,s2,s3,s4⟩:=qaJ ha1
 refine zV 53 Tryz.func136 rfl fun h=>zSR (qt h rfl rfl fun w1 bb1 h=>X1 6 0 h rfl (zcI h hF (qch ⟨_,_,rfl,(h.oldS s1)⟩) rfl fun r1 w2 h hF=>X0 5 rfl (zcB h hF qat rfl fun r2 w3 h hF=>zp1 rfl (qi (t:=11) hF rfl ?_ ?_))))<;>intro hF
 ·refine X1 5 0 h rfl (zcI h hF (qch ⟨_,_,rfl,(h.oldS s2)⟩) rfl fun r3 w4 h hF=>X0 6 rfl (qi (t:=18) hF rfl ?_ ?_))<;>intro hF
  ·refine X1 5 0 h rfl (zcI h hF (qch ⟨_,_,rfl,(h.oldS s3)⟩) rfl fun r4 w5 h hF=>X0 6 rfl (qi (t:=25) hF rfl ?_ ?_))<;>intro hF
   ·refine X1 3 0 h rfl (zcB h hF (qm3 (h.old ha1)) rfl fun r5 w6 h hF=>zp2 rfl (qi (t:=29) hF rfl ?_ ?_))<;>intro hF
    ·refine X1 5 0 h rfl (zcB h hF (qbZ ⟨_,_,rfl,(h.oldS s2)⟩) rfl fun r6 w7 h hF=>zp2 rfl (qi (t:=34) hF rfl ?_ ?_))<;>intro hF
     ·refine X1 5 0 h rfl (zcB h hF (qbZ ⟨_,_,rfl,(h.oldS s3)⟩) rfl fun r7 w8 h hF=>zp2 rfl (qi (t:=39) hF rfl ?_ ?_))<;>intro hF
      ·refine X1 5 0 h rfl (zcI h hF (qch ⟨_,_,rfl,(h.oldS s4)⟩) rfl fun r8 w9 h hF=>X0 6 rfl (qi (t:=46) hF rfl ?_ ?_))<;>intro hF
       ·exact X1 9 0 h rfl (zcB h hF (qbZ ⟨_,_,rfl,(h.oldS s4)⟩) rfl fun r9 w10 h hF=>X0 3 rfl (rb h hF rfl))
       exact X0 8 rfl (rb h hF rfl)
      exact X0 15 rfl (rb h hF rfl)
     exact X0 20 rfl (rb h hF rfl)
    exact X0 25 rfl (rb h hF rfl)
   exact X0 29 rfl (rb h hF rfl)
  exact X0 36 rfl (rb h hF rfl)
 exact X0 43 rfl (rb h hF rfl)
def qem (b:qf) (x2:(List Int)):Nat→Int→Option (Flow Bool Int)
 | 0,_=>none
 | n+1,i2 =>
  bif decide (i2<(b.Ac.length:Int)) then
   (idx b.Ac i2).bind fun y4 =>
   (idx x2 i2).bind fun y5 =>
   (qks n y4 y5).bind fun r2 =>
   bif (!r2) then some (.ret false) else
   qem b x2 n (W64 (i2+1))
  else
   some (.nxt i2)
def qcK (r1:(List Tplace)):Nat→(List Int)→Int→Option ((List Int) × Int)
 | 0,_,_=>none
 | n+1,x2,i1 =>
  bif decide (i1<(r1.length:Int)) then
   (idx r1 i1).bind fun y1 =>
   bif (!y1.drives) then
    (idx x2 y1.net).bind fun y2 =>
    (idx x2 y1.net).bind fun _ =>
    qcK r1 n (setS x2 y1.net (W64 (y2+1))) (W64 (i1+1))
   else
    qcK r1 n x2 (W64 (i1+1))
  else
   some (x2,i1)
def qhI (n:Nat) (b:qf):Option Bool :=
 (
  (qiA n (⟨b.Av.Aq⟩:qp) (⟨b.Ab.Aa,b.Ab.Am,b.Ab.Aj⟩:qd)).bind fun r3 =>
  bif (!r3) then some true else
  some ((b.Ac.length:Int) != (b.Ab.Am.length:Int))).bind fun b1 =>
 bif b1 then some false else
 (mkS (b.Ac.length:Int) (0:Int)).bind fun x1 =>
 (qb9 n (⟨b.Ab.Aa,b.Ab.Am,b.Ab.Aj⟩:qd)).bind fun r1 =>
 (qcK r1 n x1 0).bind fun o=>match o with
 | (x2,_) =>
  (qem b x2 n 0).bind fun o=>match o with
  | .ret r=>some r
  | .nxt _ =>
   some true
theorem qpk {b:qf} (ha1:GoT.R w (old w) b cs1) {r:Bool} (hF:qhI n b=some r):RetV Tryz.prog 93 [GoT.v qf cs1] w r:=by
 obtain ⟨p1,k1,p2,k2,p3,k3,p4,k4,p5,k5,rfl,s1,s2,s3,s4,s5⟩:=qX ha1
 refine zV 63 Tryz.func93 rfl fun h=>zSR (qt h rfl rfl fun w1 bb1 h=>X0 4 rfl ?_)
 obtain ⟨KF1,hKF1,o3,hF,hK3⟩:=bindE hF
 refine qbk (fun e w'=>∃ (b1:Bool),KF1 b1=some r∧e=[(1,.pointer (some ⟨bb1,0,none⟩)),(23,.bool b1)]∧SH w w' [Ch.box bb1 (qaO b p1 p2 p3 p4 p5 k1 k2 k3 k4 k5) 50]) ?_ ?_
 ·refine X2 5 0 0 h rfl (zcB h hF (qoK (qdE _ (h.oldS s1)) (qam _ (h.oldS s2) (h.oldS s3) (h.oldS s4))) rfl fun r3 w12 h hF=>zp2 rfl (qi (t:=14) hF rfl ?_ ?_))<;>intro hF
  ·refine X0 10 rfl ?_
   obtain rfl:=qb hF
   exact rG ⟨_,hK3,rfl,h⟩ rfl
  refine X2 18 0 0 h rfl ?_
  obtain rfl:=qb hF
  exact rG ⟨_,hK3,rfl,h⟩ rfl
 rintro e3 w13 ⟨b1,hF,rfl,h⟩
 subst hKF1
 refine qg rfl hF ?_ ?_<;>intro hF
 ·exact X0 4 rfl (rb h hF rfl)
 refine X1 6 0 h rfl ?_
 obtain ⟨x1,hx1,hF⟩:=qc hF
 obtain ⟨g1,g2,hx1⟩:=qM hx1
 refine qaf qa Int h rfl rfl rfl rfl rfl rfl rfl rfl rfl g1 g2 hx1 rfl fun w2 S1 p6 h=>X1 7 1 h rfl (zcL h hF (qec (qam _ (h.oldS s2) (h.oldS s3) (h.oldS s4))) rfl fun r1 w3 S2 p7 k6 h hF=>X0 3 rfl ?_)
 obtain ⟨o1,hF,hK1⟩:=qc hF
 refine ql (rL (fun m e w'=>∃ (x2:(List Int)) (i1:Int),qcK r1 m x2 i1=some o1∧e=[(1,.pointer (some ⟨bb1,0,none⟩)),(3,.slice p6 x1.length x1.length),(30,.slice p7 r1.length k6),(31,.int .i64 (r1.length:Int)),(32,.int .i64 i1)]∧SH w w' [Ch.own S2 (r1:List Tplace) [.slice p7 r1.length k6],Ch.own S1 (x2:List Int) [.slice p6 x1.length x1.length],Ch.box bb1 (qaO b p1 p2 p3 p4 p5 k1 k2 k3 k4 k5) 50]) n ⟨_,_,hF,rfl,h⟩ rfl ?_)
 rintro m1 e1 w4 ⟨x2,i1,hF,rfl,h⟩
 rcases m1 with _|m1
 ·cases hF
 refine X0 5 rfl (qg rfl hF ?_ ?_)<;>intro hF
 ·refine zKSBSR ?_
  obtain ⟨y1,hy1,hF,he1,b2,_,q1,cs2,hp1,hq1,hr2,hc3⟩:=(h.sl 0 rfl).1.ix hF
  obtain rfl:=qgl hr2
  refine zx hp1 hq1 ⟨he1.1,qT he1.2.1 (h.sl 0 rfl).2⟩ rfl (zc 0 hc3 rfl (qm qa h rfl rfl rfl fun w5 bb2 h=>zs 0 h rfl fun w6 h=>X1 7 0 h rfl (qg rfl hF ?_ ?_)))<;>intro hF
  ·refine X1 4 0 h rfl ?_
   obtain ⟨y2,hy2,hF,he2,b3,_,q2,cs3,hp2,hq2,rfl,hc5⟩:=(h.sl 2 rfl).1.ix hF
   refine zx hp2 hq2 ⟨he2.1,qT he2.2.1 (h.sl 2 rfl).2⟩ rfl (zc 0 hc5 rfl (zp1 rfl ?_))
   obtain ⟨y3,hy3,hF,he3,b4,_,q3,cs4,hp3,hq3,rfl,hc6⟩:=(h.sl 2 rfl).1.ix hF
   refine zx hp3 hq3 ⟨he3.1,qT he3.2.1 (h.sl 2 rfl).2⟩ rfl (qbq qa 2 0 (W64 (y2+1)) h rfl hy3 hp3 hq3 rfl hc6 rfl rfl rfl rfl rfl rfl rfl fun w7 h=>X0 6 rfl ?_)
   replace h:=h.pick [1,2,3] rfl
   exact rK ⟨_,_,hF,rfl,h⟩ rfl
  refine X0 6 rfl ?_
  replace h:=h.pick [1,2,3] rfl
  exact rK ⟨_,_,hF,rfl,h⟩ rfl
 refine qr rfl ?_
 obtain rfl:=qb hF;replace hF:=hK1
 refine X1 8 2 h rfl ?_
 obtain ⟨o2,hF,hK2⟩:=qc hF
 refine ql ?_
 replace h:=h.pick [1] rfl
 refine rL (fun m e w'=>∃ (i2:Int),qem b x2 m i2=some o2∧e=[(3,.slice p6 x1.length x1.length),(48,.slice p5 b.Ac.length k5),(49,.int .i64 (b.Ac.length:Int)),(50,.int .i64 i2)]∧SH w w' [Ch.own S1 (x2:List Int) [.slice p6 x1.length x1.length]]) n ⟨_,hF,rfl,h⟩ rfl ?_
 rintro m2 e2 w8 ⟨i2,hF,rfl,h⟩
 rcases m2 with _|m2
 ·cases hF
 refine X0 5 rfl (qg rfl hF ?_ ?_)<;>intro hF
 ·refine X0 6 rfl ?_
  obtain ⟨y4,hy4,hF,he4,b5,_,q4,cs5,hp4,hq4,hr5,hc8⟩:=s5.ix hF
  obtain ⟨p8,k7,p9,k8,p10,k9,p11,k10,rfl,s6,s7,s8,s9⟩:=qaJ hr5
  refine zxe hp4 hq4 he4 rfl (zc 0 (hc8.below h.below) rfl (qm qa h rfl rfl rfl fun w9 bb3 h=>zp1 rfl (zs 0 h rfl fun w10 h=>zNS (rD (Y1 1 0 h rfl ?_)))))
  refine zd2 rfl ?_
  obtain ⟨y5,hy5,hF,he5,b6,_,q5,cs6,hp5,hq5,rfl,hc9⟩:=(h.sl 1 rfl).1.ix hF
  refine zdx hp5 hq5 ⟨he5.1,qT he5.2.1 (h.sl 1 rfl).2⟩ rfl (zdc 0 hc9 rfl ?_)
  obtain ⟨r2,hr7,hF⟩:=qc hF
  refine qa3 r2 (vsB _) (cB 136 rfl) (fun _ hb=>qqi (qjK y4 ((h.ext hb).oldS s6) ((h.ext hb).oldS s7) ((h.ext hb).oldS s8) ((h.ext hb).oldS s9)) hr7) rfl rfl rfl rfl (zd1 rfl (dN h fun w11 h=>qg rfl hF ?_ ?_))<;>intro hF
  ·refine X0 4 rfl ?_
   obtain rfl:=qb hF;replace hF:=hK2
   exact rb h hF rfl
  refine X0 6 rfl ?_
  replace h:=h.pick [1] rfl
  exact rK ⟨_,hF,rfl,h⟩ rfl
 refine qr rfl ?_
 obtain rfl:=qb hF;replace hF:=hK2
 exact X0 4 rfl (rb h hF rfl)
end Go.Fw


namespace Go.Fw
open Go
def qcn (a:(List Int)):Nat:=a.length
theorem qdb {a:(List Int)} (h:(rngL rngI) a) (w:qcn a≤1048576):(okL okI) a :=
 ⟨by simp only [qcn] at w;omega,fun x hx=>h.2 x hx⟩
def qhv (x:qv):Prop:=(rngL rngI) x.Bm∧(rngL rngI) x.Bj∧(rngL rngI) x.Bh
def qfn (x:qv):Nat:=qcn x.Bm+qcn x.Bj+qcn x.Bh
structure qhD (x:qv):Prop where
 Bm:(okL okI) x.Bm
 Bj:(okL okI) x.Bj
 Bh:(okL okI) x.Bh
theorem qtk {x:qv} (h:qhv x) (w:qfn x≤1048576):qhD x:=⟨qdb (h.1) (by simp only [qfn] at w;omega),qdb (h.2.1) (by simp only [qfn] at w;omega),qdb (h.2.2) (by simp only [qfn] at w;omega)⟩
def qfH (a:(List qv)):Nat:=a.length+(a.map fun x=>qfn x).sum
theorem qoU {a:(List qv)} (h:(rngL qhv) a) (w:qfH a≤1048576):(okL qhD) a :=
 ⟨by simp only [qfH] at w;omega,fun x hx=>qtk (h.2 x hx) (by have:=qee (wt:=fun x:qv=>qfn x) hx;simp only [qfH] at w;omega)⟩
def qlE (x:qN):Prop:=rngI x.Be∧rngI x.Bk∧rngI x.To∧rngI x.Bn∧(rngL qhv) x.Bq∧(rngL qhv) x.Bc
def qkA (x:qN):Nat:=qfH x.Bq+qfH x.Bc
structure qnh (x:qN):Prop where
 Be:okI x.Be
 Bk:okI x.Bk
 To:okI x.To
 Bn:okI x.Bn
 Bq:(okL qhD) x.Bq
 Bc:(okL qhD) x.Bc
theorem qwg {x:qN} (h:qlE x) (w:qkA x≤1048576):qnh x:=⟨h.1,h.2.1,h.2.2.1,h.2.2.2.1,qoU (h.2.2.2.2.1) (by simp only [qkA] at w;omega),qoU (h.2.2.2.2.2) (by simp only [qkA] at w;omega)⟩
theorem qfa {a:(List Int)} (h:qcn a≤1048576):Ev (fun n=>qbf n a a) true:=by
 have hl:a.length≤1048576:=by simp only [qcn] at h;omega
 unfold qbf
 exact Ev.ff (by simp) (Ev.bind (b:=.nxt (a.length:Int)) (qiE (eqf:=fun _ x y=>some (!(x != y))) (fun x _=>Ev.now (by simp))
  (fun n=>by simp only [qe8,qk (jb _),cond_false])
  (fun n j x hx=>by
   have hj:=(List.getElem?_eq_some_iff.1 hx).1
   simp only [qe8,qj hj,cond_true,qau hx,ja,Bool.not_not,wS j])) .done)
theorem qv0 {a:qv} (h:qfn a≤1048576):Ev (fun n=>qh3 n a a) true:=by
 unfold qh3
 simp only [qfn] at h
 exact Ev.bind (qfa (a:=a.Bm) (by omega)) (Ev.ff rfl (Ev.bind (qfa (a:=a.Bj) (by omega)) (Ev.ff rfl (Ev.bind (qfa (a:=a.Bh) (by omega)) (Ev.ff rfl (.done))))))
theorem qq6 {a:(List qv)} (h:qfH a≤1048576):Ev (fun n=>qg2 n a a) true:=by
 have hl:a.length≤1048576:=by simp only [qfH] at h;omega
 unfold qg2
 exact Ev.ff (by simp) (Ev.bind (b:=.nxt (a.length:Int)) (qiE (eqf:=qh3) (fun x hx=>qv0 (by have:=qee (wt:=fun x:qv=>qfn x) hx;simp only [qfH] at h;omega))
  (fun n=>by simp only [qe7,qk (jb _),cond_false])
  (fun n j x hx=>by
   have hj:=(List.getElem?_eq_some_iff.1 hx).1
   simp only [qe7,qj hj,cond_true,qau hx,ja,wS j])) .done)
theorem qxy {a:qN} (h:qkA a≤1048576):Ev (fun n=>qkh n a a) true:=by
 unfold qkh
 simp only [qkA] at h
 exact Ev.ff qaW (Ev.ff qaW (Ev.ff qaW (Ev.ff qaW (Ev.bind (qq6 (a:=a.Bq) (by omega)) (Ev.ff rfl (Ev.bind (qq6 (a:=a.Bc) (by omega)) (Ev.ff rfl (.done))))))))
def qkl (a:(List qN)):Nat:=a.length+(a.map fun x=>qkA x).sum
theorem quE {a:(List qN)} (h:(rngL qlE) a) (w:qkl a≤1048576):(okL qnh) a :=
 ⟨by simp only [qkl] at w;omega,fun x hx=>qwg (h.2 x hx) (by have:=qee (wt:=fun x:qN=>qkA x) hx;simp only [qkl] at w;omega)⟩
theorem qwL {a:(List qN)} (h:qkl a≤1048576):Ev (fun n=>qkt n a a) true:=by
 have hl:a.length≤1048576:=by simp only [qkl] at h;omega
 unfold qkt
 exact Ev.ff (by simp) (Ev.bind (b:=.nxt (a.length:Int)) (qiE (eqf:=qkh) (fun x hx=>qxy (by have:=qee (wt:=fun x:qN=>qkA x) hx;simp only [qkl] at h;omega))
  (fun n=>by simp only [qgp,qk (jb _),cond_false])
  (fun n j x hx=>by
   have hj:=(List.getElem?_eq_some_iff.1 hx).1
   simp only [qgp,qj hj,cond_true,qau hx,ja,wS j])) .done)
def qlt (x:qaq):Prop:=rngS x.Bb∧rngI x.Bv∧rngI x.Bt∧rngB x.Bp
def qme (x:qaq):Nat:=x.Bb.size
structure qmC (x:qaq):Prop where
 Bb:okS x.Bb
 Bv:okI x.Bv
 Bt:okI x.Bt
 Bp:okT x.Bp
theorem qvz {x:qaq} (h:qlt x) (w:qme x≤1048576):qmC x:=⟨(by unfold okS;simp only [qme] at w;omega),h.2.1,h.2.2.1,trivial⟩
def qkg (a:(List qaq)):Nat:=a.length+(a.map fun x=>qme x).sum
theorem quX {a:(List qaq)} (h:(rngL qlt) a) (w:qkg a≤1048576):(okL qmC) a :=
 ⟨by simp only [qkg] at w;omega,fun x hx=>qvz (h.2 x hx) (by have:=qee (wt:=fun x:qaq=>qme x) hx;simp only [qkg] at w;omega)⟩
def qkk (x:qA):Prop:=rngS x.Bb∧rngI x.Be∧(rngL qlt) x.Bd∧(rngL qlE) x.Ar∧(rngL rngI) x.Br∧rngI x.Ca∧rngI x.Bu
def qgS (x:qA):Nat:=x.Bb.size+qkg x.Bd+qkl x.Ar+qcn x.Br
structure qmN (x:qA):Prop where
 Bb:okS x.Bb
 Be:okI x.Be
 Bd:(okL qmC) x.Bd
 Ar:(okL qnh) x.Ar
 Br:(okL okI) x.Br
 Ca:okI x.Ca
 Bu:okI x.Bu
theorem qul {x:qA} (h:qkk x) (w:qgS x≤1048576):qmN x:=⟨(by unfold okS;simp only [qgS] at w;omega),h.2.1,quX (h.2.2.1) (by simp only [qgS] at w;omega),quE (h.2.2.2.1) (by simp only [qgS] at w;omega),qdb (h.2.2.2.2.1) (by simp only [qgS] at w;omega),h.2.2.2.2.2.1,h.2.2.2.2.2.2⟩
def qii (a:(List qA)):Nat:=a.length+(a.map fun x=>qgS x).sum
theorem qtz {a:(List qA)} (h:(rngL qkk) a) (w:qii a≤1048576):(okL qmN) a :=
 ⟨by simp only [qii] at w;omega,fun x hx=>qul (h.2 x hx) (by have:=qee (wt:=fun x:qA=>qgS x) hx;simp only [qii] at w;omega)⟩
def qkG (x:qp):Prop:=(rngL qkk) x.Aq
def qgK (x:qp):Nat:=qii x.Aq
structure qhq (x:qp):Prop where
 Aq:(okL qmN) x.Aq
theorem qrD {x:qp} (h:qkG x) (w:qgK x≤1048576):qhq x:=⟨qtz (h) (by simp only [qgK] at w;omega)⟩
def qfv (x:qn):Prop:=rngS x.Bb∧rngI x.Bs∧(rngL rngI) x.Am
def qcu (x:qn):Nat:=x.Bb.size+qcn x.Am
structure qmq (x:qn):Prop where
 Bb:okS x.Bb
 Bs:okI x.Bs
 Am:(okL okI) x.Am
theorem qqt {x:qn} (h:qfv x) (w:qcu x≤1048576):qmq x:=⟨(by unfold okS;simp only [qcu] at w;omega),h.2.1,qdb (h.2.2) (by simp only [qcu] at w;omega)⟩
def qdd (a:(List qn)):Nat:=a.length+(a.map fun x=>qcu x).sum
theorem qqc {a:(List qn)} (h:(rngL qfv) a) (w:qdd a≤1048576):(okL qmq) a :=
 ⟨by simp only [qdd] at w;omega,fun x hx=>qqt (h.2 x hx) (by have:=qee (wt:=fun x:qn=>qcu x) hx;simp only [qdd] at w;omega)⟩
def qgM (a:(List ByteArray)):Nat:=a.length+(a.map fun x=>x.size).sum
theorem qrG {a:(List ByteArray)} (_:(rngL rngS) a) (w:qgM a≤1048576):(okL okS) a :=
 ⟨by simp only [qgM] at w;omega,fun x hx=>(by unfold okS;have:=qee (wt:=fun x:ByteArray=>x.size) hx;simp only [qgM] at w;omega)⟩
def qke (x:qaj):Prop:=rngS x.Bb∧rngI x.Bv∧rngI x.Bx
def qj6 (x:qaj):Nat:=x.Bb.size
structure qrS (x:qaj):Prop where
 Bb:okS x.Bb
 Bv:okI x.Bv
 Bx:okI x.Bx
theorem quI {x:qaj} (h:qke x) (w:qj6 x≤1048576):qrS x:=⟨(by unfold okS;simp only [qj6] at w;omega),h.2.1,h.2.2⟩
def qhH (a:(List qaj)):Nat:=a.length+(a.map fun x=>qj6 x).sum
theorem qs8 {a:(List qaj)} (h:(rngL qke) a) (w:qhH a≤1048576):(okL qrS) a :=
 ⟨by simp only [qhH] at w;omega,fun x hx=>quI (h.2 x hx) (by have:=qee (wt:=fun x:qaj=>qj6 x) hx;simp only [qhH] at w;omega)⟩
def qlD (x:qd):Prop:=(rngL qfv) x.Aa∧(rngL rngS) x.Am∧(rngL qke) x.Aj
def qgk (x:qd):Nat:=qdd x.Aa+qgM x.Am+qhH x.Aj
structure qjJ (x:qd):Prop where
 Aa:(okL qmq) x.Aa
 Am:(okL okS) x.Am
 Aj:(okL qrS) x.Aj
theorem qsn {x:qd} (h:qlD x) (w:qgk x≤1048576):qjJ x:=⟨qqc (h.1) (by simp only [qgk] at w;omega),qrG (h.2.1) (by simp only [qgk] at w;omega),qs8 (h.2.2) (by simp only [qgk] at w;omega)⟩
def qjR (x:qO):Prop:=(rngL rngI) x.Ak∧(rngL rngI) x.Bw∧(rngL rngI) x.Bt∧(rngL rngI) x.Bl
def qgQ (x:qO):Nat:=qcn x.Ak+qcn x.Bw+qcn x.Bt+qcn x.Bl
structure qnP (x:qO):Prop where
 Ak:(okL okI) x.Ak
 Bw:(okL okI) x.Bw
 Bt:(okL okI) x.Bt
 Bl:(okL okI) x.Bl
theorem qua {x:qO} (h:qjR x) (w:qgQ x≤1048576):qnP x:=⟨qdb (h.1) (by simp only [qgQ] at w;omega),qdb (h.2.1) (by simp only [qgQ] at w;omega),qdb (h.2.2.1) (by simp only [qgQ] at w;omega),qdb (h.2.2.2) (by simp only [qgQ] at w;omega)⟩
def qhS (a:(List qO)):Nat:=a.length+(a.map fun x=>qgQ x).sum
theorem qty {a:(List qO)} (h:(rngL qjR) a) (w:qhS a≤1048576):(okL qnP) a :=
 ⟨by simp only [qhS] at w;omega,fun x hx=>qua (h.2 x hx) (by have:=qee (wt:=fun x:qO=>qgQ x) hx;simp only [qhS] at w;omega)⟩
def qmO (x:qf):Prop:=qkG x.Av∧qlD x.Ab∧(rngL qjR) x.Ac
def qhU (x:qf):Nat:=qgK x.Av+qgk x.Ab+qhS x.Ac
structure qll (x:qf):Prop where
 Av:qhq x.Av
 Ab:qjJ x.Ab
 Ac:(okL qnP) x.Ac
theorem qtu {x:qf} (h:qmO x) (w:qhU x≤1048576):qll x:=⟨qrD (h.1) (by simp only [qhU] at w;omega),qsn (h.2.1) (by simp only [qhU] at w;omega),qty (h.2.2) (by simp only [qhU] at w;omega)⟩
theorem qxN {a:qaq} (_:qme a≤1048576):Ev (fun n=>qjQ n a a) true:=by
 unfold qjQ
 exact Ev.ff qid (Ev.ff qaW (Ev.ff qaW (Ev.ff qrT (.done))))
theorem qwt {a:(List qaq)} (h:qkg a≤1048576):Ev (fun n=>qku n a a) true:=by
 have hl:a.length≤1048576:=by simp only [qkg] at h;omega
 unfold qku
 exact Ev.ff (by simp) (Ev.bind (b:=.nxt (a.length:Int)) (qiE (eqf:=qjQ) (fun x hx=>qxN (by have:=qee (wt:=fun x:qaq=>qme x) hx;simp only [qkg] at h;omega))
  (fun n=>by simp only [qgm,qk (jb _),cond_false])
  (fun n j x hx=>by
   have hj:=(List.getElem?_eq_some_iff.1 hx).1
   simp only [qgm,qj hj,cond_true,qau hx,ja,wS j])) .done)
theorem qwH {a:qA} (h:qgS a≤1048576):Ev (fun n=>qi9 n a a) true:=by
 unfold qi9
 simp only [qgS] at h
 exact Ev.ff qid (Ev.ff qaW (Ev.bind (qwt (a:=a.Bd) (by omega)) (Ev.ff rfl (Ev.bind (qwL (a:=a.Ar) (by omega)) (Ev.ff rfl (Ev.bind (qfa (a:=a.Br) (by omega)) (Ev.ff rfl (Ev.ff qaW (Ev.ff qaW (.done))))))))))
theorem qvL {a:(List qA)} (h:qii a≤1048576):Ev (fun n=>qju n a a) true:=by
 have hl:a.length≤1048576:=by simp only [qii] at h;omega
 unfold qju
 exact Ev.ff (by simp) (Ev.bind (b:=.nxt (a.length:Int)) (qiE (eqf:=qi9) (fun x hx=>qwH (by have:=qee (wt:=fun x:qA=>qgS x) hx;simp only [qii] at h;omega))
  (fun n=>by simp only [qfC,qk (jb _),cond_false])
  (fun n j x hx=>by
   have hj:=(List.getElem?_eq_some_iff.1 hx).1
   simp only [qfC,qj hj,cond_true,qau hx,ja,wS j])) .done)
theorem qtB {a:qp} (h:qgK a≤1048576):Ev (fun n=>qh9 n a a) true:=by
 unfold qh9
 simp only [qgK] at h
 exact Ev.bind (qvL (a:=a.Aq) (by omega)) (Ev.ff rfl (.done))
theorem qsM {a:qn} (h:qcu a≤1048576):Ev (fun n=>qfD n a a) true:=by
 unfold qfD
 simp only [qcu] at h
 exact Ev.ff qid (Ev.ff qaW (Ev.bind (qfa (a:=a.Am) (by omega)) (Ev.ff rfl (.done))))
theorem qrJ {a:(List qn)} (h:qdd a≤1048576):Ev (fun n=>qgB n a a) true:=by
 have hl:a.length≤1048576:=by simp only [qdd] at h;omega
 unfold qgB
 exact Ev.ff (by simp) (Ev.bind (b:=.nxt (a.length:Int)) (qiE (eqf:=qfD) (fun x hx=>qsM (by have:=qee (wt:=fun x:qn=>qcu x) hx;simp only [qdd] at h;omega))
  (fun n=>by simp only [qdA,qk (jb _),cond_false])
  (fun n j x hx=>by
   have hj:=(List.getElem?_eq_some_iff.1 hx).1
   simp only [qdA,qj hj,cond_true,qau hx,ja,wS j])) .done)
theorem qtb {a:(List ByteArray)} (h:qgM a≤1048576):Ev (fun n=>qhO n a a) true:=by
 have hl:a.length≤1048576:=by simp only [qgM] at h;omega
 unfold qhO
 exact Ev.ff (by simp) (Ev.bind (b:=.nxt (a.length:Int)) (qiE (eqf:=fun _ x y=>some (!(x.toList != y.toList))) (fun x _=>Ev.now (by simp))
  (fun n=>by simp only [qeL,qk (jb _),cond_false])
  (fun n j x hx=>by
   have hj:=(List.getElem?_eq_some_iff.1 hx).1
   simp only [qeL,qj hj,cond_true,qau hx,ja,Bool.not_not,wS j])) .done)
theorem qwz {a:qaj} (_:qj6 a≤1048576):Ev (fun n=>qiT n a a) true:=by
 unfold qiT
 exact Ev.ff qid (Ev.ff qaW (Ev.ff qaW (.done)))
theorem qv5 {a:(List qaj)} (h:qhH a≤1048576):Ev (fun n=>qjF n a a) true:=by
 have hl:a.length≤1048576:=by simp only [qhH] at h;omega
 unfold qjF
 exact Ev.ff (by simp) (Ev.bind (b:=.nxt (a.length:Int)) (qiE (eqf:=qiT) (fun x hx=>qwz (by have:=qee (wt:=fun x:qaj=>qj6 x) hx;simp only [qhH] at h;omega))
  (fun n=>by simp only [qfz,qk (jb _),cond_false])
  (fun n j x hx=>by
   have hj:=(List.getElem?_eq_some_iff.1 hx).1
   simp only [qfz,qj hj,cond_true,qau hx,ja,wS j])) .done)
theorem qup {a:qd} (h:qgk a≤1048576):Ev (fun n=>qiI n a a) true:=by
 unfold qiI
 simp only [qgk] at h
 exact Ev.bind (qrJ (a:=a.Aa) (by omega)) (Ev.ff rfl (Ev.bind (qtb (a:=a.Am) (by omega)) (Ev.ff rfl (Ev.bind (qv5 (a:=a.Aj) (by omega)) (Ev.ff rfl (.done))))))
theorem qwv {a:qO} (h:qgQ a≤1048576):Ev (fun n=>qiU n a a) true:=by
 unfold qiU
 simp only [qgQ] at h
 exact Ev.bind (qfa (a:=a.Ak) (by omega)) (Ev.ff rfl (Ev.bind (qfa (a:=a.Bw) (by omega)) (Ev.ff rfl (Ev.bind (qfa (a:=a.Bt) (by omega)) (Ev.ff rfl (Ev.bind (qfa (a:=a.Bl) (by omega)) (Ev.ff rfl (.done))))))))
theorem qvJ {a:(List qO)} (h:qhS a≤1048576):Ev (fun n=>qjE n a a) true:=by
 have hl:a.length≤1048576:=by simp only [qhS] at h;omega
 unfold qjE
 exact Ev.ff (by simp) (Ev.bind (b:=.nxt (a.length:Int)) (qiE (eqf:=qiU) (fun x hx=>qwv (by have:=qee (wt:=fun x:qO=>qgQ x) hx;simp only [qhS] at h;omega))
  (fun n=>by simp only [qfG,qk (jb _),cond_false])
  (fun n j x hx=>by
   have hj:=(List.getElem?_eq_some_iff.1 hx).1
   simp only [qfG,qj hj,cond_true,qau hx,ja,wS j])) .done)
theorem qv2 {a:qf} (h:qhU a≤1048576):Ev (fun n=>qjt n a a) true:=by
 unfold qjt
 simp only [qhU] at h
 exact Ev.bind (qtB (a:=a.Av) (by omega)) (Ev.ff rfl (Ev.bind (qup (a:=a.Ab) (by omega)) (Ev.ff rfl (Ev.bind (qvJ (a:=a.Ac) (by omega)) (Ev.ff rfl (.done))))))
theorem qfV {a:(List Int)} {left:Int} (h:(rngL rngI) a) (h0:0≤left) (h1:left≤1048576):Sz (fun n=>qbK n a left) (fun r=>r=left-(qcn a:Int)) :=
 Sz.less h0 h1 (by omega) (by have:=h.1;omega) (fun _=>rfl)
theorem qvv {a:qv} {left:Int} (h:qhv a) (h0:0≤left) (h1:left≤1048576):Sz (fun n=>qhR n a left) (fun r=>r=left-(qfn a:Int)):=by
 unfold qhR
 obtain ⟨h_0,h_1,h_2⟩:=h
 exact Sz.step (qfV (a:=a.Bm) h_0 (by omega) (by omega)) fun r0 p0 q0=>Sz.step (qfV (a:=a.Bj) h_1 (by omega) (by omega)) fun r1 p1 q1=>Sz.step (qfV (a:=a.Bh) h_2 (by omega) (by omega)) fun r2 p2 q2=>Sz.done p2 (by simp only [qfn];omega)
theorem qqR {a:(List qv)} {left:Int} (h:(rngL qhv) a) (h0:0≤left) (h1:left≤1048576):Sz (fun n=>qiK n a left) (fun r=>r=left-(qfH a:Int)) :=
 Sz.list (Lf:=qdY a) (wt:=fun x:qv=>qfn x) (el:=qhR) h0 h1 h.1 (fun x hx left p q=>qvv (h.2 x hx) p q)
  (fun acc n=>by simp only [qdY,qk (jb _),cond_false])
  (fun acc n j x hx=>by
   have hj:=(List.getElem?_eq_some_iff.1 hx).1
   have hl:=h.1
   simp only [qdY,qj hj,cond_true,qau hx,ja,wS j])
  (fun _=>rfl)
theorem qxO {a:qN} {left:Int} (h:qlE a) (h0:0≤left) (h1:left≤1048576):Sz (fun n=>qjZ n a left) (fun r=>r=left-(qkA a:Int)):=by
 unfold qjZ
 obtain ⟨h_0,h_1,h_2,h_3,h_4,h_5⟩:=h
 exact Sz.step (qqR (a:=a.Bq) h_4 (by omega) (by omega)) fun r0 p0 q0=>Sz.step (qqR (a:=a.Bc) h_5 (by omega) (by omega)) fun r1 p1 q1=>Sz.done p1 (by simp only [qkA];omega)
theorem qwO {a:(List qN)} {left:Int} (h:(rngL qlE) a) (h0:0≤left) (h1:left≤1048576):Sz (fun n=>qml n a left) (fun r=>r=left-(qkl a:Int)) :=
 Sz.list (Lf:=qff a) (wt:=fun x:qN=>qkA x) (el:=qjZ) h0 h1 h.1 (fun x hx left p q=>qxO (h.2 x hx) p q)
  (fun acc n=>by simp only [qff,qk (jb _),cond_false])
  (fun acc n j x hx=>by
   have hj:=(List.getElem?_eq_some_iff.1 hx).1
   have hl:=h.1
   simp only [qff,qj hj,cond_true,qau hx,ja,wS j])
  (fun _=>rfl)
theorem qxI {a:qaq} {left:Int} (h:qlt a) (h0:0≤left) (h1:left≤1048576):Sz (fun n=>qj7 n a left) (fun r=>r=left-(qme a:Int)):=by
 unfold qj7
 obtain ⟨h_0,h_1,h_2,h_3⟩:=h
 exact Sz.strStep h_0 (by omega) (by omega) fun p0 q0=>Sz.done p0 (by simp only [qme];omega)
theorem qxb {a:(List qaq)} {left:Int} (h:(rngL qlt) a) (h0:0≤left) (h1:left≤1048576):Sz (fun n=>qmk n a left) (fun r=>r=left-(qkg a:Int)) :=
 Sz.list (Lf:=qe1 a) (wt:=fun x:qaq=>qme x) (el:=qj7) h0 h1 h.1 (fun x hx left p q=>qxI (h.2 x hx) p q)
  (fun acc n=>by simp only [qe1,qk (jb _),cond_false])
  (fun acc n j x hx=>by
   have hj:=(List.getElem?_eq_some_iff.1 hx).1
   have hl:=h.1
   simp only [qe1,qj hj,cond_true,qau hx,ja,wS j])
  (fun _=>rfl)
theorem qw6 {a:qA} {left:Int} (h:qkk a) (h0:0≤left) (h1:left≤1048576):Sz (fun n=>qiQ n a left) (fun r=>r=left-(qgS a:Int)):=by
 unfold qiQ
 obtain ⟨h_0,h_1,h_2,h_3,h_4,h_5,h_6⟩:=h
 exact Sz.strStep h_0 (by omega) (by omega) fun p0 q0=>Sz.step (qxb (a:=a.Bd) h_2 (by omega) (by omega)) fun r1 p1 q1=>Sz.step (qwO (a:=a.Ar) h_3 (by omega) (by omega)) fun r2 p2 q2=>Sz.step (qfV (a:=a.Br) h_4 (by omega) (by omega)) fun r3 p3 q3=>Sz.done p3 (by simp only [qgS];omega)
theorem qvA {a:(List qA)} {left:Int} (h:(rngL qkk) a) (h0:0≤left) (h1:left≤1048576):Sz (fun n=>qlq n a left) (fun r=>r=left-(qii a:Int)) :=
 Sz.list (Lf:=qel a) (wt:=fun x:qA=>qgS x) (el:=qiQ) h0 h1 h.1 (fun x hx left p q=>qw6 (h.2 x hx) p q)
  (fun acc n=>by simp only [qel,qk (jb _),cond_false])
  (fun acc n j x hx=>by
   have hj:=(List.getElem?_eq_some_iff.1 hx).1
   have hl:=h.1
   simp only [qel,qj hj,cond_true,qau hx,ja,wS j])
  (fun _=>rfl)
theorem qtj {a:qp} {left:Int} (h:qkG a) (h0:0≤left) (h1:left≤1048576):Sz (fun n=>qh2 n a left) (fun r=>r=left-(qgK a:Int)):=by
 unfold qh2
 have h_0:=h
 exact Sz.step (qvA (a:=a.Aq) h_0 (by omega) (by omega)) fun r0 p0 q0=>Sz.done p0 (by simp only [qgK];omega)
theorem qsI {a:qn} {left:Int} (h:qfv a) (h0:0≤left) (h1:left≤1048576):Sz (fun n=>qfN n a left) (fun r=>r=left-(qcu a:Int)):=by
 unfold qfN
 obtain ⟨h_0,h_1,h_2⟩:=h
 exact Sz.strStep h_0 (by omega) (by omega) fun p0 q0=>Sz.step (qfV (a:=a.Am) h_2 (by omega) (by omega)) fun r1 p1 q1=>Sz.done p1 (by simp only [qcu];omega)
theorem qrY {a:(List qn)} {left:Int} (h:(rngL qfv) a) (h0:0≤left) (h1:left≤1048576):Sz (fun n=>qio n a left) (fun r=>r=left-(qdd a:Int)) :=
 Sz.list (Lf:=qcC a) (wt:=fun x:qn=>qcu x) (el:=qfN) h0 h1 h.1 (fun x hx left p q=>qsI (h.2 x hx) p q)
  (fun acc n=>by simp only [qcC,qk (jb _),cond_false])
  (fun acc n j x hx=>by
   have hj:=(List.getElem?_eq_some_iff.1 hx).1
   have hl:=h.1
   simp only [qcC,qj hj,cond_true,qau hx,ja,wS j])
  (fun _=>rfl)
theorem qtE {a:(List ByteArray)} {left:Int} (h:(rngL rngS) a) (h0:0≤left) (h1:left≤1048576):Sz (fun n=>qj5 n a left) (fun r=>r=left-(qgM a:Int)) :=
 Sz.list (Lf:=qdf a) (wt:=fun x:ByteArray=>x.size) (el:=fun _ (x:ByteArray) acc=>some (W64 (acc-(x.size:Int)))) h0 h1 h.1 (fun x hx left p q=>Sz.str (h.2 x hx) p q)
  (fun acc n=>by simp only [qdf,qk (jb _),cond_false])
  (fun acc n j x hx=>by
   have hj:=(List.getElem?_eq_some_iff.1 hx).1
   have hl:=h.1
   simp only [qdf,qj hj,cond_true,qau hx,ja,wS j])
  (fun _=>rfl)
theorem qwK {a:qaj} {left:Int} (h:qke a) (h0:0≤left) (h1:left≤1048576):Sz (fun n=>qi4 n a left) (fun r=>r=left-(qj6 a:Int)):=by
 unfold qi4
 obtain ⟨h_0,h_1,h_2⟩:=h
 exact Sz.strStep h_0 (by omega) (by omega) fun p0 q0=>Sz.done p0 (by simp only [qj6];omega)
theorem qvZ {a:(List qaj)} {left:Int} (h:(rngL qke) a) (h0:0≤left) (h1:left≤1048576):Sz (fun n=>qlB n a left) (fun r=>r=left-(qhH a:Int)) :=
 Sz.list (Lf:=qep a) (wt:=fun x:qaj=>qj6 x) (el:=qi4) h0 h1 h.1 (fun x hx left p q=>qwK (h.2 x hx) p q)
  (fun acc n=>by simp only [qep,qk (jb _),cond_false])
  (fun acc n j x hx=>by
   have hj:=(List.getElem?_eq_some_iff.1 hx).1
   have hl:=h.1
   simp only [qep,qj hj,cond_true,qau hx,ja,wS j])
  (fun _=>rfl)
theorem quG {a:qd} {left:Int} (h:qlD a) (h0:0≤left) (h1:left≤1048576):Sz (fun n=>qiO n a left) (fun r=>r=left-(qgk a:Int)):=by
 unfold qiO
 obtain ⟨h_0,h_1,h_2⟩:=h
 exact Sz.step (qrY (a:=a.Aa) h_0 (by omega) (by omega)) fun r0 p0 q0=>Sz.step (qtE (a:=a.Am) h_1 (by omega) (by omega)) fun r1 p1 q1=>Sz.step (qvZ (a:=a.Aj) h_2 (by omega) (by omega)) fun r2 p2 q2=>Sz.done p2 (by simp only [qgk];omega)
theorem qwF {a:qO} {left:Int} (h:qjR a) (h0:0≤left) (h1:left≤1048576):Sz (fun n=>qi1 n a left) (fun r=>r=left-(qgQ a:Int)):=by
 unfold qi1
 obtain ⟨h_0,h_1,h_2,h_3⟩:=h
 exact Sz.step (qfV (a:=a.Ak) h_0 (by omega) (by omega)) fun r0 p0 q0=>Sz.step (qfV (a:=a.Bw) h_1 (by omega) (by omega)) fun r1 p1 q1=>Sz.step (qfV (a:=a.Bt) h_2 (by omega) (by omega)) fun r2 p2 q2=>Sz.step (qfV (a:=a.Bl) h_3 (by omega) (by omega)) fun r3 p3 q3=>Sz.done p3 (by simp only [qgQ];omega)
theorem qvo {a:(List qO)} {left:Int} (h:(rngL qjR) a) (h0:0≤left) (h1:left≤1048576):Sz (fun n=>qlA n a left) (fun r=>r=left-(qhS a:Int)) :=
 Sz.list (Lf:=qei a) (wt:=fun x:qO=>qgQ x) (el:=qi1) h0 h1 h.1 (fun x hx left p q=>qwF (h.2 x hx) p q)
  (fun acc n=>by simp only [qei,qk (jb _),cond_false])
  (fun acc n j x hx=>by
   have hj:=(List.getElem?_eq_some_iff.1 hx).1
   have hl:=h.1
   simp only [qei,qj hj,cond_true,qau hx,ja,wS j])
  (fun _=>rfl)
theorem qvV {a:qf} {left:Int} (h:qmO a) (h0:0≤left) (h1:left≤1048576):Sz (fun n=>qjA n a left) (fun r=>r=left-(qhU a:Int)):=by
 unfold qjA
 obtain ⟨h_0,h_1,h_2⟩:=h
 exact Sz.step (qtj (a:=a.Av) h_0 (by omega) (by omega)) fun r0 p0 q0=>Sz.step (quG (a:=a.Ab) h_1 (by omega) (by omega)) fun r1 p1 q1=>Sz.step (qvo (a:=a.Ac) h_2 (by omega) (by omega)) fun r2 p2 q2=>Sz.done p2 (by simp only [qhU];omega)
theorem qdS {a:(List Int)} (h:qcn a≤1048576):Ev (fun n=>qaN n a) a:=by
 have hl:a.length≤1048576:=by simp only [qcn] at h;omega
 unfold qaN
 exact Ev.bindN (qib (by omega)) (Ev.bind (b:=(a,(a.length:Int))) (qiF (cp:=fun _ x=>some x) (fun _ _=>.done)
  (fun acc n=>by simp only [qfi,qk (jb _),cond_false])
  (fun acc n j x y hx hy=>by
   have hj:=(List.getElem?_eq_some_iff.1 hx).1
   simp only [qfi,qj hj,cond_true,qau hx,qau hy,ja,wS j])) .done)
theorem qu2 {a:qv} (h:qfn a≤1048576):Ev (fun n=>qh8 n a) a:=by
 unfold qh8
 simp only [qfn] at h
 exact Ev.bind (qdS (a:=a.Bm) (by omega)) (Ev.bind (qdS (a:=a.Bj) (by omega)) (Ev.bind (qdS (a:=a.Bh) (by omega)) (.done)))
theorem qra {a:(List qv)} (h:qfH a≤1048576):Ev (fun n=>qg0 n a) a:=by
 have hl:a.length≤1048576:=by simp only [qfH] at h;omega
 unfold qg0
 exact Ev.bindN (qib (by omega)) (Ev.bind (b:=(a,(a.length:Int))) (qiF (cp:=qh8) (fun x hx=>qu2 (by have:=qee (wt:=fun x:qv=>qfn x) hx;simp only [qfH] at h;omega))
  (fun acc n=>by simp only [qe3,qk (jb _),cond_false])
  (fun acc n j x y hx hy=>by
   have hj:=(List.getElem?_eq_some_iff.1 hx).1
   simp only [qe3,qj hj,cond_true,qau hx,qau hy,ja,wS j])) .done)
theorem qxS {a:qN} (h:qkA a≤1048576):Ev (fun n=>qjU n a) a:=by
 unfold qjU
 simp only [qkA] at h
 exact Ev.bind (qra (a:=a.Bq) (by omega)) (Ev.bind (qra (a:=a.Bc) (by omega)) (.done))
theorem qws {a:(List qN)} (h:qkl a≤1048576):Ev (fun n=>qkr n a) a:=by
 have hl:a.length≤1048576:=by simp only [qkl] at h;omega
 unfold qkr
 exact Ev.bindN (qib (by omega)) (Ev.bind (b:=(a,(a.length:Int))) (qiF (cp:=qjU) (fun x hx=>qxS (by have:=qee (wt:=fun x:qN=>qkA x) hx;simp only [qkl] at h;omega))
  (fun acc n=>by simp only [qgd,qk (jb _),cond_false])
  (fun acc n j x y hx hy=>by
   have hj:=(List.getElem?_eq_some_iff.1 hx).1
   simp only [qgd,qj hj,cond_true,qau hx,qau hy,ja,wS j])) .done)
theorem qxU {a:qaq} (_:qme a≤1048576):Ev (fun n=>qj4 n a) a:=by
 unfold qj4
 exact .done
theorem qwB {a:(List qaq)} (h:qkg a≤1048576):Ev (fun n=>qkw n a) a:=by
 have hl:a.length≤1048576:=by simp only [qkg] at h;omega
 unfold qkw
 exact Ev.bindN (qib (by omega)) (Ev.bind (b:=(a,(a.length:Int))) (qiF (cp:=qj4) (fun x hx=>qxU (by have:=qee (wt:=fun x:qaq=>qme x) hx;simp only [qkg] at h;omega))
  (fun acc n=>by simp only [qgq,qk (jb _),cond_false])
  (fun acc n j x y hx hy=>by
   have hj:=(List.getElem?_eq_some_iff.1 hx).1
   simp only [qgq,qj hj,cond_true,qau hx,qau hy,ja,wS j])) .done)
theorem qwq {a:qA} (h:qgS a≤1048576):Ev (fun n=>qi3 n a) a:=by
 unfold qi3
 simp only [qgS] at h
 exact Ev.bind (qwB (a:=a.Bd) (by omega)) (Ev.bind (qws (a:=a.Ar) (by omega)) (Ev.bind (qdS (a:=a.Br) (by omega)) (.done)))
theorem qwe {a:(List qA)} (h:qii a≤1048576):Ev (fun n=>qjB n a) a:=by
 have hl:a.length≤1048576:=by simp only [qii] at h;omega
 unfold qjB
 exact Ev.bindN (qib (by omega)) (Ev.bind (b:=(a,(a.length:Int))) (qiF (cp:=qi3) (fun x hx=>qwq (by have:=qee (wt:=fun x:qA=>qgS x) hx;simp only [qii] at h;omega))
  (fun acc n=>by simp only [qfF,qk (jb _),cond_false])
  (fun acc n j x y hx hy=>by
   have hj:=(List.getElem?_eq_some_iff.1 hx).1
   simp only [qfF,qj hj,cond_true,qau hx,qau hy,ja,wS j])) .done)
theorem qtd {a:qp} (h:qgK a≤1048576):Ev (fun n=>qh5 n a) a:=by
 unfold qh5
 simp only [qgK] at h
 exact Ev.bind (qwe (a:=a.Aq) (by omega)) (.done)
theorem qsz {a:qn} (h:qcu a≤1048576):Ev (fun n=>qfK n a) a:=by
 unfold qfK
 simp only [qcu] at h
 exact Ev.bind (qdS (a:=a.Am) (by omega)) (.done)
theorem qrw {a:(List qn)} (h:qdd a≤1048576):Ev (fun n=>qgG n a) a:=by
 have hl:a.length≤1048576:=by simp only [qdd] at h;omega
 unfold qgG
 exact Ev.bindN (qib (by omega)) (Ev.bind (b:=(a,(a.length:Int))) (qiF (cp:=qfK) (fun x hx=>qsz (by have:=qee (wt:=fun x:qn=>qcu x) hx;simp only [qdd] at h;omega))
  (fun acc n=>by simp only [qdB,qk (jb _),cond_false])
  (fun acc n j x y hx hy=>by
   have hj:=(List.getElem?_eq_some_iff.1 hx).1
   simp only [qdB,qj hj,cond_true,qau hx,qau hy,ja,wS j])) .done)
theorem qs1 {a:(List ByteArray)} (h:qgM a≤1048576):Ev (fun n=>qhG n a) a:=by
 have hl:a.length≤1048576:=by simp only [qgM] at h;omega
 unfold qhG
 exact Ev.bindN (qib (by omega)) (Ev.bind (b:=(a,(a.length:Int))) (qiF (cp:=fun _ x=>some x) (fun _ _=>.done)
  (fun acc n=>by simp only [qey,qk (jb _),cond_false])
  (fun acc n j x y hx hy=>by
   have hj:=(List.getElem?_eq_some_iff.1 hx).1
   simp only [qey,qj hj,cond_true,qau hx,qau hy,ja,wS j])) .done)
theorem qw7 {a:qaj} (_:qj6 a≤1048576):Ev (fun n=>qi6 n a) a:=by
 unfold qi6
 exact .done
theorem qvt {a:(List qaj)} (h:qhH a≤1048576):Ev (fun n=>qjv n a) a:=by
 have hl:a.length≤1048576:=by simp only [qhH] at h;omega
 unfold qjv
 exact Ev.bindN (qib (by omega)) (Ev.bind (b:=(a,(a.length:Int))) (qiF (cp:=qi6) (fun x hx=>qw7 (by have:=qee (wt:=fun x:qaj=>qj6 x) hx;simp only [qhH] at h;omega))
  (fun acc n=>by simp only [qfE,qk (jb _),cond_false])
  (fun acc n j x y hx hy=>by
   have hj:=(List.getElem?_eq_some_iff.1 hx).1
   simp only [qfE,qj hj,cond_true,qau hx,qau hy,ja,wS j])) .done)
theorem quB {a:qd} (h:qgk a≤1048576):Ev (fun n=>qiC n a) a:=by
 unfold qiC
 simp only [qgk] at h
 exact Ev.bind (qrw (a:=a.Aa) (by omega)) (Ev.bind (qs1 (a:=a.Am) (by omega)) (Ev.bind (qvt (a:=a.Aj) (by omega)) (.done)))
theorem qwR {a:qO} (h:qgQ a≤1048576):Ev (fun n=>qiS n a) a:=by
 unfold qiS
 simp only [qgQ] at h
 exact Ev.bind (qdS (a:=a.Ak) (by omega)) (Ev.bind (qdS (a:=a.Bw) (by omega)) (Ev.bind (qdS (a:=a.Bt) (by omega)) (Ev.bind (qdS (a:=a.Bl) (by omega)) (.done))))
theorem qvm {a:(List qO)} (h:qhS a≤1048576):Ev (fun n=>qjq n a) a:=by
 have hl:a.length≤1048576:=by simp only [qhS] at h;omega
 unfold qjq
 exact Ev.bindN (qib (by omega)) (Ev.bind (b:=(a,(a.length:Int))) (qiF (cp:=qiS) (fun x hx=>qwR (by have:=qee (wt:=fun x:qO=>qgQ x) hx;simp only [qhS] at h;omega))
  (fun acc n=>by simp only [qfM,qk (jb _),cond_false])
  (fun acc n j x y hx hy=>by
   have hj:=(List.getElem?_eq_some_iff.1 hx).1
   simp only [qfM,qj hj,cond_true,qau hx,qau hy,ja,wS j])) .done)
theorem qvC {a:qf} (h:qhU a≤1048576):Ev (fun n=>qjp n a) a:=by
 unfold qjp
 simp only [qhU] at h
 exact Ev.bind (qtd (a:=a.Av) (by omega)) (Ev.bind (quB (a:=a.Ab) (by omega)) (Ev.bind (qvm (a:=a.Ac) (by omega)) (.done)))
end Go.Fw


namespace Go.Fw
open Go
set_option maxRecDepth 100000
theorem qcp {n:Nat} {x lo hi:Int}:qap n x lo hi=some (inI x lo hi):=by
 simp only [qap,qmn,qnL];rfl
theorem qc0 {n:Nat} {x lo hi:Int}:qaF n x lo hi=some (inI x lo hi):=by
 simp only [qaF,qmn,qnL];rfl
def bt (s:ByteArray) (j:Nat):Nat:=(s.data.toList.getD j 0).toNat
theorem qwb {s:ByteArray} {j:Nat} (h:j<s.size):atS s (j:Int)=some (bt s j:Int):=by
 have h':j<s.data.size:=h
 have hl:j<s.data.toList.length:=by simpa using h'
 unfold atS
 rw [if_pos (by omega),jn]
 have:s[j]?=some (s.data.toList.getD j 0):=by
  rw [getElem?_pos s j h,jz,jf hl]
  rfl
 rw [this]
 rfl
def letB (b:Nat):Bool:=decide (97≤b)&&decide (b≤122)
def digB (b:Nat):Bool:=decide (48≤b)&&decide (b≤57)
def chB (s:ByteArray) (j:Nat):Bool:=letB (bt s j) || digB (bt s j)&&decide (0<j)
def nameB (s:ByteArray):Bool:=(decide (1≤s.size)&&decide (s.size≤8))&&allN (chB s) s.size
theorem qls {s:ByteArray} (h:okS s):Ev (fun n=>qfq n s) (nameB s):=by
 unfold okS at h
 have hL:Ev (fun n=>qdx s n 0) (bif allN (chB s) s.size then .nxt (s.size:Int) else .ret false):=by
  refine qd1 ?_ (fun j hj X hX=>?_)
  ·exact Ev.succ (by simp only [qdx,qk (jb _),cond_false];exact .done)
  ·refine Ev.succ ?_
   simp only [qdx,qj hj,cond_true,qwb hj,ja,qmn,qnL,wS j]
   have e1:(decide ((bt s j:Int) ≥ 97)&&decide ((bt s j:Int)≤122))=letB (bt s j):=by unfold letB;rw [jh];simp;omega
   have e2:(decide ((bt s j:Int) ≥ 48)&&decide ((bt s j:Int)≤57))=digB (bt s j):=by unfold digB;rw [jh];simp;omega
   have e3:decide ((j:Int) > 0)=decide (0<j):=by rw [jh];simp
   rw [e1,e2,e3]
   unfold chB
   cases letB (bt s j)<;>cases digB (bt s j)<;>cases decide (0<j)<;>first|exact hX|exact .done
 unfold qfq
 refine Ev.cast (r:=bif allN (chB s) s.size then (decide (1≤s.size)&&decide (s.size≤8)) else false) (Ev.bindB hL (fun _=>?_) (fun _=>.done)) ?_
 ·simp only [qmn,qnL]
  exact Ev.now (by congr 1;rw [jh];simp;omega)
 ·unfold nameB
  cases allN (chB s) s.size<;>simp
def cutset:List UInt8:=[97,98,99,100,101,102,103,104,105,106,107,108,109,110,111,112,113,114,115,116,117,118,119,120,121,122,48,49,50,51,52,53,54,55,56,57]
theorem qpO (b:UInt8):cutset.contains b=(letB b.toNat || digB b.toNat):=by
 have h0:(List.range 256).all (fun m=>cutset.contains (UInt8.ofNat m)==(letB (UInt8.ofNat m).toNat || digB (UInt8.ofNat m).toNat))=true:=by kernel_rfl
 have h:=List.all_eq_true.1 h0 b.toNat (List.mem_range.2 b.toNat_lt)
 rw [beq_iff_eq] at h
 simpa using h
def letters:List UInt8:=[97,98,99,100,101,102,103,104,105,106,107,108,109,110,111,112,113,114,115,116,117,118,119,120,121,122]
theorem qtC (m:Nat) (hm:m<256):decide ((Lib.indexByte letters m.toUInt8) ≥ 0)=letB m:=by
 have h0:(List.range 256).all (fun m=>decide ((Lib.indexByte letters m.toUInt8) ≥ 0)==letB m)=true:=by kernel_rfl
 have h:=List.all_eq_true.1 h0 m (List.mem_range.2 hm)
 rwa [beq_iff_eq] at h
theorem qqK {α:Type} {p:α→Bool} {l:List α}:l.dropWhile p=[]↔∀ x,x ∈ l→p x=true:=by
 induction l with
 | nil=>simp
 | cons y l ih =>
  rw [List.dropWhile_cons]
  by_cases h:p y=true
  ·rw [if_pos h,ih];simp [h]
  ·rw [if_neg h];simp [h]
theorem qqr {α:Type} {p:α→Bool} {l:List α} (h:∀ x,x ∈ l.dropWhile p→p x=true):∀ x,x ∈ l→p x=true:=by
 induction l with
 | nil=>simp
 | cons y l ih =>
  rw [List.dropWhile_cons] at h
  by_cases hy:p y=true
  ·rw [if_pos hy] at h
   intro x hx
   rcases List.mem_cons.1 hx with rfl|hx
   ·exact hy
   ·exact ih h x hx
  ·rw [if_neg hy] at h
   exact h
theorem qwd {l cs:List UInt8}:Lib.trimS l cs=[]↔∀ x,x ∈ l→cs.contains x=true:=by
 unfold Lib.trimS Lib.trimRightS Lib.trimLeftS
 rw [qqK]
 constructor
 ·intro h x hx
  exact qqr (p:=(cs.contains ·)) (l:=l.reverse) (fun y hy=>h y (List.mem_reverse.2 hy)) x (List.mem_reverse.2 hx)
 ·intro h x hx
  exact h x (List.mem_reverse.1 ((List.dropWhile_suffix _).subset (List.mem_reverse.1 hx)))
theorem qg8 {a b:ByteArray}:(a.toList==b.toList)=decide (a=b):=by
 rw [jh,beq_iff_eq,decide_eq_true_iff]
 constructor
 ·intro h
  exact ByteArray.ext (by have:=congrArg List.toArray h;simpa [ByteArray.toList_eq] using this)
 ·rintro rfl;rfl
end Go.Fw


namespace Go.Fw
open Go
set_option maxRecDepth 100000
theorem qxh {s:ByteArray} {j:Nat} (h:j<s.data.toList.length):bt s j=(s.data.toList[j]).toNat:=by
 unfold bt;rw [jz,jf h];rfl
theorem qx7 {s:ByteArray} {j:Nat}:bt s j<256:=UInt8.toNat_lt _
theorem qom {n:Nat} {s:ByteArray} (h:okS s):qhA n s=some (nameB s):=by
 unfold okS at h
 have hl:s.data.toList.length=s.size:=by simp
 simp only [qhA,qc0,ja]
 cases hI:inI (s.size:Int) 1 8 with
 | false =>
  have hs:(decide (1≤s.size)&&decide (s.size≤8))=false:=by rw [quc] at hI;rw [Bool.and_eq_false_iff,decide_eq_false_iff_not,decide_eq_false_iff_not];omega
  simp [nameB,hs]
 | true =>
  have hs:1≤s.size∧s.size≤8:=by rw [qa1] at hI;omega
  have hT:qh4 n s (⟨#[97,98,99,100,101,102,103,104,105,106,107,108,109,110,111,112,113,114,115,116,117,118,119,120,121,122,48,49,50,51,52,53,54,55,56,57]⟩:ByteArray)=some ⟨(Lib.trimS s.data.toList cutset).toArray⟩:=by
   unfold qh4
   rw [if_pos ⟨by omega,by decide,by decide⟩]
   rfl
  rw [hT]
  simp only [cond_true,ja]
  have hE:(((⟨(Lib.trimS s.data.toList cutset).toArray⟩:ByteArray).toList==(⟨#[]⟩:ByteArray).toList))=allN (fun j=>letB (bt s j) || digB (bt s j)) s.size:=by
   rw [qg8,jh,decide_eq_true_iff,qah]
   have:((⟨(Lib.trimS s.data.toList cutset).toArray⟩:ByteArray)=⟨#[]⟩)↔Lib.trimS s.data.toList cutset=[]:=by
    constructor
    ·intro he
     have:=congrArg (fun x:ByteArray=>x.data.toList) he
     simpa using this
    ·intro he;rw [he]
   rw [this,qwd]
   constructor
   ·intro hx j hj
    have hj':j<s.data.toList.length:=by omega
    have:=hx _ (jp hj')
    rw [qpO,←qxh hj'] at this
    exact this
   ·intro hx x hm
    obtain ⟨j,hj,rfl⟩:=jN hm
    have:=hx j (by omega)
    rw [qpO,←qxh hj]
    exact this
  rw [hE]
  have h0:atS s 0=some (bt s 0:Int):=qwb (j:=0) (by omega)
  have hI2:decide (Lib.indexByte letters (bt s 0:Int).toNat.toUInt8 ≥ 0)=letB (bt s 0):=by
   rw [jn];exact qtC _ qx7
  have hF:∀ b:Bool,(bif b then (atS s 0).bind fun y1=>(qf3 n (⟨#[97,98,99,100,101,102,103,104,105,106,107,108,109,110,111,112,113,114,115,116,117,118,119,120,121,122]⟩:ByteArray) (⟨y1⟩:IntK .u8)).bind fun r3=>some (decide (r3 ≥ 0)) else some false)=some (b&&letB (bt s 0)):=by
   intro b
   cases b with
   | false=>rfl
   | true =>
    rw [h0]
    simp only [cond_true,ja,qf3,jw]
    exact congrArg some hI2
  rw [hF]
  congr 1
  have hs':(decide (1≤s.size)&&decide (s.size≤8))=true:=by simp [hs]
  unfold nameB
  rw [hs',jw,jh,jc,qah,qah]
  simp only [chB,Bool.or_eq_true,jc,decide_eq_true_eq]
  constructor
  ·rintro ⟨h1,h2⟩ j hj
   rcases Nat.eq_zero_or_pos j with rfl|hp
   ·exact .inl h2
   ·exact (h1 j hj).imp id (fun h=>⟨h,hp⟩)
  ·intro h1
   refine ⟨fun j hj=>(h1 j hj).imp id (fun h=>h.1),?_⟩
   rcases h1 0 (by omega) with h2|h2
   ·exact h2
   ·omega
def strAt (xs:List ByteArray) (j:Nat):ByteArray:=xs.getD j ByteArray.empty
theorem qnz {xs:List ByteArray} {j:Nat} (h:j<xs.length):strAt xs j=xs[j]:=by simp [strAt,h]
theorem qpu {xs:List ByteArray} {j:Nat} (h:j<xs.length):idx xs (j:Int)=some (strAt xs j):=by rw [qhF h,qnz h]
def neB (xs:List ByteArray) (j i:Nat):Bool:=!decide (strAt xs i=strAt xs j)
def namesB (xs:List ByteArray):Bool:=allN (fun j=>nameB (strAt xs j)&&allN (neB xs j) j) xs.length
theorem qmh {xs:List ByteArray} (h:okL okS xs):Ev (fun n=>qfQ n xs) (namesB xs):=by
 have hl:=h.len
 have hL2:∀ j,j<xs.length→Ev (fun n=>qdZ xs (j:Int) n 0) (bif allN (neB xs j) j then .nxt (j:Int) else .ret false):=by
  intro j hj
  refine qd1 ?_ (fun i hi X hX=>Ev.succ ?_)
  ·exact Ev.succ (by simp only [qdZ,qk (jb _),cond_false];exact .done)
  ·simp only [qdZ,qj hi,cond_true,qpu (show i<xs.length by omega),qpu hj,ja,qg8,wS i]
   unfold neB
   cases decide (strAt xs i=strAt xs j)
   ·exact hX
   ·exact .done
 have hL1:Ev (fun n=>qdP xs n 0) (bif namesB xs then .nxt (xs.length:Int) else .ret false):=by
  refine qd1 ?_ (fun j hj X hX=>Ev.succ ?_)
  ·exact Ev.succ (by simp only [qdP,qk (jb _),cond_false];exact .done)
  ·simp only [qdP,qj hj,cond_true,qpu hj,ja,wS j]
   refine Ev.bind (qls (by rw [qnz hj];exact h.at hj)) ?_
   cases nameB (strAt xs j)
   ·exact .done
   ·refine Ev.ff rfl (Ev.bind (hL2 j hj) ?_)
    cases allN (neB xs j) j
    ·exact .done
    ·exact hX
 unfold qfQ
 refine Ev.bind hL1 ?_
 cases namesB xs<;>exact .done
theorem qsN {xs:List ByteArray} {v:ByteArray} (hl:xs.length≤1048576):Ev (fun n=>qeW n xs v) (ixL (fun x=>decide (v=x)) xs) :=
 qe6 (fin:=(xs.length:Int)) (Lf:=qbN xs v) (pf:=fun _ x=>some (decide (v=x))) (fun _ _=>.done)
  (fun n=>by simp only [qbN,qk (jb _),cond_false])
  (fun n j x hx=>by
   have hj:=(List.getElem?_eq_some_iff.1 hx).1
   simp only [qbN,qj hj,cond_true,qau hx,ja,qg8,wS j])
  (fun n=>by unfold qeW;congr 1;funext o;cases o<;>rfl)
theorem qpW {xs:List ByteArray} {v:ByteArray} (hl:xs.length≤1048576):Ev (fun n=>qdH n xs v) (xs.any fun x=>decide (v=x)):=by
 unfold qdH
 exact Ev.bind (qsN hl) (Ev.now (by rw [qmH]))
theorem qiX {xs:List ByteArray} (h:okL okS xs):Ev (fun n=>qdL n xs) (namesB xs):=by
 have hl:=h.len
 have hL1:Ev (fun n=>qdW xs n 0) (bif namesB xs then .nxt (xs.length:Int) else .ret false):=by
  refine qd1 ?_ (fun j hj X hX=>Ev.succ ?_)
  ·exact Ev.succ (by simp only [qdW,qk (jb _),cond_false];exact .done)
  ·have hs:subS xs 0 (j:Int)=some (xs.take j):=by
    unfold subS
    rw [if_pos ⟨by omega,by omega,by omega⟩]
    simp
   simp only [qdW,qj hj,cond_true,qpu hj,ja,hs,qom (show okS (strAt xs j) by rw [qnz hj];exact h.at hj),wS j]
   cases nameB (strAt xs j)
   ·exact .done
   ·refine Ev.ff rfl (Ev.bind (qpW (by simp;omega)) ?_)
    have:((xs.take j).any fun x=>decide (strAt xs j=x)) = !allN (neB xs j) j:=by
     rw [qr4 (d:=ByteArray.empty)]
     congr 1
     rw [jS,Nat.min_eq_left (by omega)]
     refine qhr (fun i hi=>?_)
     unfold neB strAt
     congr 1
     have:(xs.take j).getD i ByteArray.empty=xs.getD i ByteArray.empty:=by simp [jz,hi]
     rw [this]
     exact decide_eq_decide.2 eq_comm
    rw [this]
    cases allN (neB xs j) j
    ·exact .done
    ·exact hX
 unfold qdL
 refine Ev.bind hL1 ?_
 cases namesB xs<;>exact .done
end Go.Fw


namespace Go.Fw
open Go
set_option maxRecDepth 100000
theorem qqs {n:Nat} {x lo hi:Int}:qgN n x lo hi=some (!inI x lo hi):=by simp only [qgN,qc0,ja]
theorem qeF {xs:List Int} {lo hi:Int} (hl:xs.length≤1048576):Ev (fun n=>qbH n xs lo hi) (xs.all fun x=>inI x lo hi):=by
 have h1:Ev (fun n=>qaP n xs lo hi) (ixL (fun x=>!inI x lo hi) xs) :=
  qe6 (fin:=(xs.length:Int)) (Lf:=qY xs lo hi) (pf:=fun _ x=>some (!inI x lo hi)) (fun _ _=>.done)
   (fun n=>by simp only [qY,qk (jb _),cond_false])
   (fun n j x hx=>by
    have hj:=(List.getElem?_eq_some_iff.1 hx).1
    simp only [qY,qj hj,cond_true,qau hx,ja,qqs,wS j])
   (fun n=>by unfold qaP;congr 1;funext o;cases o<;>rfl)
 unfold qbH qbm
 refine Ev.bind (Ev.bind h1 (Ev.now rfl)) (Ev.now ?_)
 rw [qmH,qn4]
def stepB (xs:List Int) (j:Nat):Bool:=decide (j=0) || decide (at0 xs (j-1)<at0 xs j)
def incB (xs:List Int):Bool:=allN (stepB xs) xs.length
theorem qlV {xs:List Int} (hl:xs.length≤1048576):Ev (fun n=>qeE n xs) (incB xs):=by
 have hL:Ev (fun n=>qbj xs n 1) (bif incB xs then .nxt (max 1 xs.length:Int) else .ret false):=by
  by_cases h0:xs.length=0
  ·have hb:incB xs=true:=by unfold incB;rw [h0];rfl
   rw [hb]
   refine Ev.succ ?_
   have:decide ((1:Int)<(xs.length:Int))=false:=by rw [h0];decide
   simp only [qbj,this,cond_false]
   exact Ev.now (by rw [h0];rfl)
  ·have:=qtW (Lf:=qbj xs) (len:=xs.length) (i0:=1) (f:=stepB xs) (bad:=false) (fin:=.nxt (max 1 xs.length:Int)) (by omega)
    (Ev.succ (by
     simp only [qbj,qk (jb _),cond_false]
     exact Ev.now (by congr 2;omega)))
    (fun j h1 hj X hX=>Ev.succ (by
     simp only [qbj,qj hj,cond_true,wS j,show (j:Int)-1=((j-1:Nat):Int) by omega,qav (show -9223372036854775808≤((j-1:Nat):Int) by omega) (by omega),qae (show j-1<xs.length by omega),qae hj,ja]
     unfold stepB
     by_cases hc:at0 xs (j-1)<at0 xs j
     ·have e1:decide (at0 xs (j-1) ≥ at0 xs j)=false:=by simp;omega
      rw [e1];simp only [hc,decide_true,Bool.or_true,cond_true,cond_false];exact hX
     ·have e1:decide (at0 xs (j-1) ≥ at0 xs j)=true:=by simp;omega
      have e2:decide (j=0)=false:=by simp;omega
      rw [e1,e2];simp only [hc,decide_false,Bool.or_self,cond_true,cond_false];exact .done))
   have e:allN (fun j=>stepB xs (1+j)) (xs.length-1)=incB xs:=by
    unfold incB
    rw [jh,qah,qah]
    constructor
    ·intro h j hj
     cases j with
     | zero=>rfl
     | succ j=>have:=h j (by omega);rwa [Nat.add_comm] at this
    ·intro h j hj
     exact h (1+j) (by omega)
   rw [e] at this
   exact this
 unfold qeE
 refine Ev.bind hL ?_
 cases incB xs<;>exact .done
def lenB {α:Type} (xs:List α) (lo hi:Nat):Bool:=decide (lo≤xs.length)&&decide (xs.length≤hi)
theorem qrU {α:Type} {xs:List α} {lo hi:Nat}:inI (xs.length:Int) (lo:Int) (hi:Int)=lenB xs lo hi:=by
 unfold inI lenB;rw [jh];simp
def axisB (xs:List Int):Bool:=lenB xs 1 4&&((xs.all fun x=>inI x 0 100000)&&incB xs)
theorem qq5 {xs:List Int} (hl:xs.length≤1048576):Ev (fun n=>qi5 n xs) (axisB xs):=by
 simp only [qi5,qbg,ja,qc0,show inI (xs.length:Int) 1 4=lenB xs 1 4 from qrU (lo:=1) (hi:=4)]
 unfold axisB
 cases lenB xs 1 4
 ·exact .done
 ·refine Ev.tt rfl (Ev.bind (qeF hl) ?_)
  cases (xs.all fun x=>inI x 0 100000)
  ·exact .done
  ·exact Ev.tt rfl (Ev.bind (qlV hl) .done)
theorem qpX {xs:List Int} (hl:xs.length≤1048576):Ev (fun n=>qhQ n xs) (axisB xs):=by
 have hL:Ev (fun n=>qdr xs n 0) (bif allN (fun j=>inI (at0 xs j) 0 100000&&stepB xs j) xs.length then .nxt (xs.length:Int) else .ret false):=by
  refine qd1 ?_ (fun j hj X hX=>Ev.succ ?_)
  ·exact Ev.succ (by simp only [qdr,qk (jb _),cond_false];exact .done)
  ·simp only [qdr,qj hj,cond_true,qae hj,ja,qcp,wS j]
   cases inI (at0 xs j) 0 100000
   ·exact .done
   ·simp only [jW,cond_false,jw]
    unfold stepB
    by_cases h0:j=0
    ·subst h0
     exact Ev.ff (by decide) hX
    ·simp only [show (j:Int)-1=((j-1:Nat):Int) by omega,qav (show -9223372036854775808≤((j-1:Nat):Int) by omega) (by omega),qae (show j-1<xs.length by omega),ja]
     have e2:decide (j=0)=false:=by simp;omega
     have e3:decide ((j:Int) > 0)=true:=by simp;omega
     rw [e2,e3]
     simp only [cond_true,Bool.false_or]
     by_cases hc:at0 xs (j-1)<at0 xs j
     ·have e1:decide (at0 xs (j-1) ≥ at0 xs j)=false:=by simp;omega
      rw [e1];simp only [hc,decide_true,cond_true,cond_false];exact hX
     ·have e1:decide (at0 xs (j-1) ≥ at0 xs j)=true:=by simp;omega
      rw [e1];simp only [hc,decide_false,cond_true,cond_false];exact .done
 have e:axisB xs=(allN (fun j=>inI (at0 xs j) 0 100000&&stepB xs j) xs.length&&lenB xs 1 4):=by
  unfold axisB incB
  rw [qli,qge (d:=0),Bool.and_comm]
  rfl
 rw [e]
 unfold qhQ
 refine Ev.bind hL ?_
 cases allN (fun j=>inI (at0 xs j) 0 100000&&stepB xs j) xs.length
 ·exact .done
 ·simp only [cond_true,qmn,qnL,jw]
  exact Ev.now (by congr 1;unfold lenB;rw [jh];simp;omega)
def tableB (t:qv):Bool:=axisB t.Bm&&(axisB t.Bj&&(decide (t.Bh.length=t.Bm.length*t.Bj.length)&&(t.Bh.all fun x=>inI x (-1000000) 1000000)))
theorem qtN {a b:Nat} (ha:a≤1048576) (hb:b≤1048576):W64 ((a:Int)*(b:Int))=((a*b:Nat):Int):=by
 have h:a*b≤1048576*1048576:=Nat.mul_le_mul ha hb
 have e:(a:Int)*(b:Int)=((a*b:Nat):Int):=by simp
 rw [e]
 exact qav (by omega) (by omega)
theorem qts {t:qv} (h:qhD t):Ev (fun n=>qjr n t) (tableB t):=by
 unfold qjr tableB
 refine Ev.bind (qq5 h.Bm.len) ?_
 cases axisB t.Bm
 ·exact .done
 ·refine Ev.tt rfl (Ev.bind (qq5 h.Bj.len) ?_)
  cases axisB t.Bj
  ·exact .done
  ·rw [qtN h.Bm.len h.Bj.len]
   have e:(((t.Bh.length:Nat):Int)==((t.Bm.length*t.Bj.length:Nat):Int))=decide (t.Bh.length=t.Bm.length*t.Bj.length):=by rw [jh];simp;omega
   rw [e]
   cases decide (t.Bh.length=t.Bm.length*t.Bj.length)
   ·exact .done
   ·exact Ev.tt rfl (Ev.tt rfl (Ev.bind (qeF h.Bh.len) .done))
theorem qsL {t:qv} (h:qhD t):Ev (fun n=>qjz n t) (tableB t):=by
 have hl:=h.Bh.len
 have hL:Ev (fun n=>qej t n 0) (bif (t.Bh.all fun x=>inI x (-1000000) 1000000) then .nxt (t.Bh.length:Int) else .ret false) :=
  qnO (fun n=>by simp only [qej,qk (jb _),cond_false]) (fun j hj X hX=>by
   simp only [qej,qj hj,cond_true,qhF hj,ja,qcp,wS j]
   cases inI t.Bh[j] (-1000000) 1000000
   ·exact .done
   ·exact hX)
 unfold qjz tableB
 refine Ev.bind (b:=!(axisB t.Bm&&(axisB t.Bj&&decide (t.Bh.length=t.Bm.length*t.Bj.length)))) ?_ ?_
 ·refine Ev.bind (qpX h.Bm.len) ?_
  cases axisB t.Bm
  ·exact .done
  ·refine Ev.ff rfl (Ev.bind (qpX h.Bj.len) ?_)
   cases axisB t.Bj
   ·exact .done
   ·refine Ev.ff rfl (Ev.now ?_)
    rw [qtN h.Bm.len h.Bj.len]
    congr 1
    rw [jh];simp;omega
 ·cases axisB t.Bm
  ·exact .done
  ·cases axisB t.Bj
   ·exact .done
   ·cases decide (t.Bh.length=t.Bm.length*t.Bj.length)
    ·exact .done
    ·refine Ev.ff rfl (Ev.bind hL ?_)
     cases (t.Bh.all fun x=>inI x (-1000000) 1000000)<;>exact .done
end Go.Fw


namespace Go.Fw
open Go
set_option maxRecDepth 100000
instance:Inhabited qaq:=⟨⟨ByteArray.empty,0,0,false⟩⟩
instance:Inhabited qv:=⟨⟨[],[],[]⟩⟩
instance:Inhabited qN:=⟨⟨0,0,0,0,[],[]⟩⟩
instance:Inhabited qA:=⟨⟨ByteArray.empty,0,[],[],[],0,0⟩⟩
instance:Inhabited qn:=⟨⟨ByteArray.empty,0,[]⟩⟩
instance:Inhabited qaj:=⟨⟨ByteArray.empty,0,0⟩⟩
instance:Inhabited qO:=⟨⟨[],[],[],[]⟩⟩
theorem lastE {j m:Nat} (h:j<m) (hm:m≤1048576):((j:Int)==W64 ((m:Int)-1))=decide (j+1=m):=by
 rcases qxc h with h|h
 ·exact h
 ·omega
theorem qjN {α:Type} [Inhabited α] {xs:List α} {g:α→ByteArray} {j:Nat} (h:j<xs.length):strAt (xs.map g) j=g (gt xs j):=by
 rw [qnz (by simpa using h),qeT h];simp
theorem qmK {α:Type} {xs:List α} {g:α→ByteArray} {ok:α→Prop} (h:okL ok xs) (hg:∀ x,ok x→okS (g x)):okL okS (xs.map g) :=
 ⟨by rw [jv];exact h.1,fun y hy=>by
  obtain ⟨x,hx,rfl⟩:=List.mem_map.1 hy
  exact hg x (h.2 x hx)⟩
theorem qk5 {α β:Type} {xs:List α} {g:α→β} {j:Nat} (h:j<xs.length) (hl:xs.length≤1048576) {y:β}:appS ((xs.take j).map g) [y]=some ((xs.take j).map g++[y]) :=
 qcO (by simp;omega)
def pinB (ps:List qaq) (j:Nat):Bool :=
 bif decide (j+1=ps.length) then ((gt ps j).Bv==2)&&(((gt ps j).Bt==0)&&!(gt ps j).Bp) else ((gt ps j).Bv==1)&&inI (gt ps j).Bt 0 500
def pinsB (ps:List qaq):Bool:=allN (pinB ps) ps.length&&(lenB ps 2 5&&namesB (ps.map qaq.Bb))
def clkN (ps:List qaq) (j:Nat):Nat:=cntP (fun i=>(gt ps i).Bp) j
theorem qsX {ps:List qaq} (h:okL qmC ps):Ev (fun n=>qjD n ps) (pinsB ps):=by
 have hl:=h.len
 have hL:Ev (fun n=>qcE ps n ([]:List ByteArray) 0) (bif allN (pinB ps) ps.length then .nxt (ps.map qaq.Bb,(ps.length:Int)) else .ret false):=by
  refine loopN (Lf:=qcE ps) (S:=fun j=>(ps.take j).map qaq.Bb) (pinB ps) (fun n=>?_) (fun j hj hp X hX=>?_)
  ·simp only [qcE,qk (jb _),cond_false,jB]
  ·simp only [qcE,qj hj,cond_true,qB hj,ja,qk5 hj hl,qfm (g:=qaq.Bb) hj,lastE hj hl,bne,qcP,qc0,wS j]
   generalize hc:pinB ps j=c at hX ⊢
   unfold pinB at hc
   cases hd:decide (j+1=ps.length)
   ·rw [hd] at hc
    simp only [cond_false] at hc ⊢
    subst hc
    exact Ev.okP (fun h1=>Ev.okP1 (fun h2=>hX (by rw [h1,h2];rfl)))
   ·rw [hd] at hc
    simp only [cond_true] at hc ⊢
    subst hc
    refine Ev.okP (fun h1=>Ev.okP (fun h2=>Ev.chkP1 (fun h3=>hX (by rw [h1,h2,h3];rfl))))
 unfold qjD pinsB
 refine Ev.bind hL ?_
 cases allN (pinB ps) ps.length
 ·exact .done
 ·simp only [cond_true,qcg,qc0,ja,show inI (ps.length:Int) 2 5=lenB ps 2 5 from qrU (lo:=2) (hi:=5),jw]
  exact Ev.andP (fun _=>Ev.last (qiX (qmK h (fun x hx=>hx.Bb))))
def pinS (ps:List qaq) (j:Nat):Bool:=allN (neB (ps.map qaq.Bb) j) j&&((nameB (gt ps j).Bb&&inI (gt ps j).Bt 0 500)&&(bif decide (j+1=ps.length) then ((gt ps j).Bv==2)&&(((gt ps j).Bt==0)&&!(gt ps j).Bp) else ((gt ps j).Bv==1)))
theorem qwX {ps:List qaq}:(lenB ps 2 5&&allN (pinS ps) ps.length)=pinsB ps:=by
 have e:namesB (ps.map qaq.Bb)=allN (fun j=>nameB (gt ps j).Bb&&allN (neB (ps.map qaq.Bb) j) j) ps.length:=by
  unfold namesB
  rw [jv]
  exact qhr (fun j hj=>by rw [qjN hj])
 unfold pinsB
 rw [e,←Bool.and_assoc,Bool.and_comm (allN (pinB ps) ps.length),Bool.and_assoc,←qli]
 congr 1
 refine qhr (fun j hj=>?_)
 unfold pinS pinB
 cases hd:decide (j+1=ps.length)
 ·simp only [cond_false]
  cases allN (neB (ps.map qaq.Bb) j) j<;>cases nameB (gt ps j).Bb<;>cases inI (gt ps j).Bt 0 500<;>cases ((gt ps j).Bv==1)<;>rfl
 ·simp only [cond_true]
  cases hcap:((gt ps j).Bt==0)
  ·simp
  ·have:inI (gt ps j).Bt 0 500=true:=by rw [beq_iff_eq] at hcap;rw [hcap];rfl
   rw [this]
   cases allN (neB (ps.map qaq.Bb) j) j<;>cases nameB (gt ps j).Bb<;>cases ((gt ps j).Bv==2)<;>cases (gt ps j).Bp<;>rfl
theorem qs3 {c:qA} (h:okL qmC c.Bd):Ev (fun n=>qjy n c) (bif pinsB c.Bd then (((clkN c.Bd c.Bd.length:Nat):Int),true) else (0,false)):=by
 have hl:=h.len
 have hL2:∀ j,j<c.Bd.length→Ev (fun n=>qeh c (j:Int) (gt c.Bd j) n 0) (bif allN (neB (c.Bd.map qaq.Bb) j) j then .nxt (j:Int) else .ret (0,false)):=by
  intro j hj
  refine qd1 ?_ (fun i hi X hX=>Ev.succ ?_)
  ·exact Ev.succ (by simp only [qeh,qk (jb _),cond_false];exact .done)
  ·simp only [qeh,qj hi,cond_true,qB (show i<c.Bd.length by omega),ja,qg8,wS i]
   unfold neB
   rw [qjN (g:=qaq.Bb) (show i<c.Bd.length by omega),qjN (g:=qaq.Bb) hj]
   exact Ev.chkP1 (fun _=>hX)
 have hL1:Ev (fun n=>qcG c n 0 0) (bif allN (pinS c.Bd) c.Bd.length then .nxt (((clkN c.Bd c.Bd.length:Nat):Int),(c.Bd.length:Int)) else .ret (0,false)):=by
  refine loopN (Lf:=qcG c) (S:=fun j=>((clkN c.Bd j:Nat):Int)) (pinS c.Bd) (fun n=>?_) (fun j hj hp X hX=>?_)
  ·simp only [qcG,qk (jb _),cond_false]
  ·have hn:clkN c.Bd j≤j:=qfw
   have ejl:((j:Int)==W64 ((c.Bd.length:Int)-1))=decide (j+1=c.Bd.length):=lastE hj hl
   have elt:decide ((j:Int)<W64 ((c.Bd.length:Int)-1)) = !decide (j+1=c.Bd.length):=by
    rw [qav (by omega) (by omega),jh];simp;omega
   simp only [qcG,qj hj,cond_true,qB hj,ja,wS j,qie (show clkN c.Bd j<9223372036854775807 by omega),ejl,elt,qcp]
   unfold pinS
   refine Ev.bind (hL2 j hj) ?_
   cases ha:allN (neB (c.Bd.map qaq.Bb) j) j
   ·exact .done
   ·simp only [cond_true,jw]
    refine Ev.chkT ?_ (fun h1=>?_)
    ·exact Ev.or (qls (ql6 h hj).Bb) (fun _=>.done)
    ·refine Ev.chkT1 ?_ (fun h2=>?_)
     ·cases decide (j+1=c.Bd.length)
      ·exact .done
      ·simp only [cond_true,jW,cond_false,bne,qcP]
       cases ((gt c.Bd j).Bv==2)<;>cases ((gt c.Bd j).Bt==0)<;>cases (gt c.Bd j).Bp<;>exact .done
     ·have hX:=hX (by unfold pinS;rw [ha,h1,h2];rfl)
      have hck:clkN c.Bd (j+1)=clkN c.Bd j+(bif (gt c.Bd j).Bp then 1 else 0):=rfl
      rw [hck] at hX
      cases hc:(gt c.Bd j).Bp
      ·rw [hc] at hX;exact Ev.ff rfl hX
      ·rw [hc] at hX;exact Ev.tt rfl hX
 rw [←qwX]
 unfold qjy
 refine Ev.guard ?_ (fun h1=>?_)
 ·unfold lenB
  have e1:decide ((c.Bd.length:Int)<2) = !decide (2≤c.Bd.length):=by rw [jh];simp;omega
  have e2:decide ((c.Bd.length:Int) > 5) = !decide (c.Bd.length≤5):=by rw [jh];simp;omega
  rw [e1,e2]
  cases decide (2≤c.Bd.length)<;>cases decide (c.Bd.length≤5)<;>exact .done
 ·refine Ev.bind hL1 ?_
  cases allN (pinS c.Bd) c.Bd.length<;>exact .done
def mnL (xs:List Int):Int:=(xs.drop 1).foldl (fun m y=>if y<m then y else m) (at0 xs 0)
def mxL (xs:List Int):Int:=(xs.drop 1).foldl (fun m y=>if y > m then y else m) (at0 xs 0)
theorem qpJ {t:qv} (h:tableB t=true):1≤t.Bh.length:=by
 unfold tableB axisB lenB at h
 simp only [jc,decide_eq_true_eq] at h
 obtain ⟨⟨⟨h1,_⟩,_⟩,⟨⟨h2,_⟩,_⟩,h3,_⟩:=h
 rw [h3]
 exact Nat.mul_pos h1 h2
theorem qwJ {xs:List Int} (h1:1≤xs.length) (hl:xs.length≤1048576):Ev (fun n=>qgv n xs) (mnL xs):=by
 have hL:=(qoA (Lf:=fun n t j=>qcB xs n t j) (xs:=xs) (step:=fun (m y:Int)=>if y<m then y else m) (fin:=fun t=>(t,(xs.length:Int))) 1 (at0 xs 0) (fun _ _=>True) h1 trivial (fun _ _ _ _=>trivial)
  (fun n t=>by simp only [qcB,qk (jb _),cond_false])
  (fun j t hj _ X hX=>by simpa only [qcB,qj hj,cond_true,qhF hj,ja,wS j] using hX)).1
 unfold qgv
 rw [show decide ((xs.length:Int)<1)=false by simp;omega,show idx xs (0:Int)=some (at0 xs 0) from qae (j:=0) (by omega)]
 simp only [cond_false,ja]
 exact Ev.bind hL .done
theorem qs0 {t:qv} (h:qhD t):Ev (fun n=>qgP n t) (bif tableB t then (⟨mnL t.Bh,mxL t.Bh⟩,0) else (⟨0,0⟩,1)):=by
 unfold qgP
 refine Ev.chk1 (qsL h) (fun hb=>?_)
 have h1:=qpJ hb
 have hl:=h.Bh.len
 have hL:=(qoA (Lf:=fun n (t':Int × Int) j=>qcz t n t'.1 t'.2 j) (xs:=t.Bh) (step:=fun (m:Int × Int) y=>(if y<m.1 then y else m.1,if y > m.2 then y else m.2)) (fin:=fun t'=>(t'.1,t'.2,(t.Bh.length:Int))) 1 (at0 t.Bh 0,at0 t.Bh 0) (fun _ _=>True) h1 trivial (fun _ _ _ _=>trivial)
  (fun n t=>by simp only [qcz,qk (jb _),cond_false])
  (fun j t hj _ X hX=>by simpa only [qcz,qj hj,cond_true,qhF hj,ja,wS j] using hX)).1
 have hf:∀ (ys:List Int) (a b:Int),ys.foldl (fun (m:Int × Int) y=>(if y<m.1 then y else m.1,if y > m.2 then y else m.2)) (a,b)=(ys.foldl (fun m y=>if y<m then y else m) a,ys.foldl (fun m y=>if y > m then y else m) b):=by
  intro ys
  induction ys with
  | nil=>intro a b;rfl
  | cons y ys ih=>intro a b;simp only [List.foldl_cons,ih]
 rw [hf] at hL
 rw [show idx t.Bh (0:Int)=some (at0 t.Bh 0) from qae (j:=0) (by omega)]
 simp only [ja]
 exact Ev.bind hL .done
def tabB (pos:Bool) (t:qv):Bool:=tableB t&&(!pos || decide (0≤mnL t.Bh))
def tablesB (ts:List qv) (pos:Bool):Bool:=decide (ts.length=2)&&ts.all (tabB pos)
theorem qlr {ts:List qv} {pos:Bool} (h:okL qhD ts):Ev (fun n=>qfc n ts pos) (tablesB ts pos):=by
 have hl:=h.len
 have h1:Ev (fun n=>qaB n ts pos) (ixL (fun x=>!tabB pos x) ts) :=
  qe6 (fin:=(ts.length:Int)) (Lf:=qJ ts pos) (pf:=fun n x=>qgA n x pos) (fun x hx=>by
    unfold qgA tabB
    refine Ev.or (qts (h.2 x hx)) (fun hb=>?_)
    cases pos
    ·exact .done
    ·refine Ev.tt rfl (Ev.bind (qwJ (qpJ hb) (h.2 x hx).Bh.len) (Ev.now ?_))
     congr 1
     rw [jh];simp)
   (fun n=>by simp only [qJ,qk (jb _),cond_false])
   (fun n j x hx=>by
    have hj:=(List.getElem?_eq_some_iff.1 hx).1
    simp only [qJ,qj hj,cond_true,qau hx,ja,wS j])
   (fun n=>by unfold qaB;congr 1;funext o;cases o<;>rfl)
 unfold qfc qaX tablesB
 rw [show ((ts.length:Int)==2)=decide (ts.length=2) by rw [jh];simp;omega]
 refine Ev.andP (fun _=>Ev.bind (Ev.bind h1 (Ev.now rfl)) (Ev.now ?_))
 rw [qmH,qn4]
theorem qhC {ts:List qv} {pos:Bool} (h:okL qhD ts):Ev (fun n=>qdc n ts pos) (tablesB ts pos):=by
 unfold qdc tablesB
 rw [show ((ts.length:Int) != 2) = !decide (ts.length=2) by rw [jh];simp;omega]
 simp only [qcP]
 refine Ev.andP (fun h2=>?_)
 have h2:ts.length=2:=by simpa using h2
 have hL:Ev (fun n=>qco ts pos n 0) (bif allN (fun j=>tabB pos (gt ts j)) ts.length then .nxt (2:Int) else .ret false):=by
  refine qd1 (len:=ts.length) ?_ (fun j hj X hX=>Ev.succ ?_)
  ·rw [h2];exact Ev.succ (by simp only [qco];exact .done)
  ·simp only [qco,show decide ((j:Int)<2)=true by simp;omega,cond_true,qB hj,ja,wS j]
   refine Ev.bind (qs0 (ql6 h hj)) ?_
   unfold tabB
   cases tableB (gt ts j)
   ·exact .done
   ·simp only [cond_true,jw]
    refine Ev.ff rfl ?_
    cases pos
    ·exact hX
    ·refine Ev.tt rfl ?_
     rw [show decide (mnL (gt ts j).Bh<0) = !decide (0≤mnL (gt ts j).Bh) by rw [jh];simp]
     simp only [qcP]
     exact Ev.okP1 (fun _=>hX)
 rw [qhT]
 refine Ev.bind hL ?_
 cases allN (fun j=>tabB pos (gt ts j)) ts.length<;>exact .done
end Go.Fw


namespace Go.Fw
open Go
set_option maxRecDepth 100000
theorem qdt {α:Type} [Inhabited α] {xs:List α} {x:Int} (h0:0≤x) (h1:x<xs.length):idx xs x=some (gt xs x.toNat):=by
  have:=qB (xs:=xs) (j:=x.toNat) (by omega)
  rwa [←qfY h0] at this
theorem qqX {q:Nat→Bool} {m n:Nat} (h:m≤n):cntP q m≤cntP q n:=by
  induction n with
  | zero =>
    obtain rfl:m=0:=by omega
    exact jb _
  | succ n ih =>
    rcases Nat.lt_or_eq_of_le h with h|rfl
    · exact Nat.le_trans (ih (by omega)) (Nat.le_add_right _ _)
    · exact jb _
theorem qmP {m k:Nat}:decide ((m:Int)≤(k:Int))=decide (m≤k):=by rw [jh];simp
theorem qr5 {q:Nat→Bool} {n i j:Nat} (hi:i<j) (hj:j<n) (h1:q i=true) (h2:q j=true):2≤cntP q n:=by
  have e1:cntP q (i+1)=cntP q i+1:=by rw [cntP,h1];rfl
  have e2:cntP q (j+1)=cntP q j+1:=by rw [cntP,h2];rfl
  have m1:=qqX (q:=q) (show i+1≤j by omega)
  have m2:=qqX (q:=q) (show j+1≤n by omega)
  omega
theorem qsp {q:Nat→Bool} {n i j:Nat} (hn:cntP q n≤1) (hi:i<n) (hj:j<n) (h1:q i=true) (h2:q j=true):i=j:=by
  rcases Nat.lt_trichotomy i j with h|h|h
  · have:=qr5 h hj h1 h2;omega
  · exact h
  · have:=qr5 h hi h2 h1;omega
def clkIx (ps:List qaq):Int:=ixL (fun p=>p.Bp) ps
def clkAt (ps:List qaq) (x:Int):Bool:=(gt ps x.toNat).Bp
theorem qv3 {c:qA} (hl:c.Bd.length≤1048576):Ev (fun n=>qhj n c) (clkIx c.Bd):=by
  unfold qhj
  refine Ev.bind (b:=clkIx c.Bd) ?_ .done
  exact qe6 (fin:=(c.Bd.length:Int)) (Lf:=qQ c.Bd) (pf:=fun n x=>qh7 n x) (fun _ _=>.done)
    (fun n=>by simp only [qQ,qk (jb _),cond_false])
    (fun n j x hx=>by
      have hj:=(List.getElem?_eq_some_iff.1 hx).1
      simp only [qQ,qj hj,cond_true,qau hx,ja,wS j])
    (fun n=>by unfold qbh;congr 1;funext o;cases o<;>rfl)
def arcI (ps:List qaq) (a:qN):Bool :=
  bif (a.Be==4) || (a.Be==5) then
    (a.Bn==0)&&(((a.Bc.length:Int)==0)&&(tablesB a.Bq false&&((a.Bk==clkIx ps)&&(decide (a.Bk ≥ 0)&&(inI a.To 0 (ps.length-2)&&!(a.To==a.Bk))))))
  else
    (tablesB a.Bq true&&(tablesB a.Bc true&&((a.To==(ps.length:Int)-1)&&inI a.Bk 0 (ps.length-2)))) &&
      (bif a.Be==1 then !clkAt ps a.Bk&&inI a.Bn 1 3 else (bif (a.Be==2) || (a.Be==3) then clkAt ps a.Bk&&(a.Bn==0) else false))
def arcS (ps:List qaq) (a:qN):Bool :=
  (inI a.Bk 0 (ps.length-2)&&inI a.To 0 (ps.length-1)) &&
    (bif a.Be==1 then !clkAt ps a.Bk&&((a.To==(ps.length:Int)-1)&&(inI a.Bn 1 3&&(tablesB a.Bq true&&tablesB a.Bc true)))
     else (bif (a.Be==2) || (a.Be==3) then clkAt ps a.Bk&&((a.To==(ps.length:Int)-1)&&((a.Bn==0)&&(tablesB a.Bq true&&tablesB a.Bc true)))
     else (bif (a.Be==4) || (a.Be==5) then clkAt ps a.Bk&&(decide (a.To<(ps.length:Int)-1)&&(!clkAt ps a.To&&((a.Bn==0)&&(tablesB a.Bq false&&((a.Bc.length:Int)==0))))) else false)))
theorem qoR {c d:Bool}:(bif c then some c else some d)=some (c || d):=by cases c<;>rfl
theorem qss {c d:Bool}:(bif c then some true else some d)=some (c || d):=by cases c<;>rfl
theorem qtt {n:Nat} {k:Int}:qjG n k=some ((k==4) || (k==5)):=by simp only [qjG,qss]
theorem qu8 {c:qA} {a:qN} (h:okL qmC c.Bd) (ha:qnh a) (hm:2≤c.Bd.length):Ev (fun n=>qhh n c a) (arcI c.Bd a):=by
  have hl:=h.len
  have e1:W64 ((c.Bd.length:Int)-1)=(c.Bd.length:Int)-1:=qeq (by omega)
  have e2:W64 ((c.Bd.length:Int)-1-1)=(c.Bd.length:Int)-2:=by rw [qav (by omega) (by omega)];omega
  simp only [qhh,qtt,ja,qf0,qdO,qcg,e1,e2,qc0,qoR,bne]
  unfold arcI
  refine Ev.iff (fun _=>Ev.last ?_) (fun _=>Ev.guardB ?_ (fun hb=>?_))
  · exact Ev.andP fun _=>Ev.andP fun _=>Ev.and (qlr ha.Bq) fun _=>Ev.bind (qv3 hl) (Ev.andP fun _=>Ev.andP fun _=>Ev.andP fun _=>.done)
  · refine Ev.or (qlr ha.Bq) fun _=>Ev.or (qlr ha.Bc) fun _=>?_
    simp only [qcP]
    exact Ev.orBP fun _=>.done
  · have hf:0≤a.Bk∧a.Bk≤(c.Bd.length:Int)-2:=by
      simp only [jc,qa1] at hb
      exact hb.2.2.2
    simp only [qdt hf.1 (show a.Bk<(c.Bd.length:Int) by omega),ja]
    exact Ev.iff (fun _=>Ev.andP fun _=>.done) (fun _=>Ev.iff (fun _=>Ev.andP fun _=>.done) (fun _=>.done))
theorem quV {c:qA} {a:qN} (h:okL qmC c.Bd) (ha:qnh a) (hm:2≤c.Bd.length):Ev (fun n=>qkL n c a) (arcS c.Bd a):=by
  have hl:=h.len
  have e1:W64 ((c.Bd.length:Int)-1)=(c.Bd.length:Int)-1:=qeq (by omega)
  have e2:W64 ((c.Bd.length:Int)-1-1)=(c.Bd.length:Int)-2:=by rw [qav (by omega) (by omega)];omega
  simp only [qkL,ja,e1,e2,qcp,qoR]
  unfold arcS
  refine Ev.guardB ?_ (fun hb=>?_)
  · simp only [qcP]
    exact Ev.orBP fun _=>.done
  · have hf:(0≤a.Bk∧a.Bk≤(c.Bd.length:Int)-2)∧(0≤a.To∧a.To≤(c.Bd.length:Int)-1):=by
      simp only [jc,qa1] at hb
      exact hb
    simp only [qdt hf.1.1 (show a.Bk<(c.Bd.length:Int) by omega),qdt hf.2.1 (show a.To<(c.Bd.length:Int) by omega),ja]
    refine Ev.iff (fun _=>?_) (fun _=>Ev.iff (fun _=>?_) (fun _=>Ev.iff (fun _=>?_) (fun _=>.done)))
    · exact Ev.andP fun _=>Ev.andP fun _=>Ev.andP fun _=>Ev.and (qhC ha.Bq) fun _=>Ev.last (qhC ha.Bc)
    · exact Ev.andP fun _=>Ev.andP fun _=>Ev.andP fun _=>Ev.and (qhC ha.Bq) fun _=>Ev.last (qhC ha.Bc)
    · exact Ev.andP fun _=>Ev.andP fun _=>Ev.andP fun _=>Ev.andP fun _=>Ev.and (qhC ha.Bq) fun _=>.done
theorem qok {ps:List qaq} (h1:clkN ps ps.length≤1) {x:Int} (hx:0≤x):clkIx ps=x↔x<ps.length∧clkAt ps x=true:=by
  unfold clkIx ixL
  cases hf:ps.findIdx? (fun p=>p.Bp) with
  | some j =>
    obtain ⟨hj,hp,_⟩:=List.findIdx?_eq_some_iff_getElem.1 hf
    have hpj:(gt ps j).Bp=true:=by rw [qeT hj];exact hp
    constructor
    · intro e
      have e:(j:Int)=x:=e
      subst e
      exact ⟨by omega,by unfold clkAt;rw [jn];exact hpj⟩
    · rintro ⟨hl,hc⟩
      have:=qsp h1 hj (show x.toNat<ps.length by omega) hpj hc
      show (j:Int)=x
      omega
  | none =>
    have hn:=List.findIdx?_eq_none_iff.1 hf
    constructor
    · intro e
      have e:(-1:Int)=x:=e
      omega
    · rintro ⟨hl,hc⟩
      have hxl:x.toNat<ps.length:=by omega
      unfold clkAt at hc
      rw [qeT hxl] at hc
      have:=hn _ (jp hxl)
      rw [hc] at this
      exact absurd this (by decide)
theorem qgi {ps:List qaq} (h:pinsB ps=true):(2≤ps.length∧ps.length≤5)∧clkAt ps ((ps.length:Int)-1)=false:=by
  unfold pinsB lenB at h
  simp only [jc,decide_eq_true_eq] at h
  refine ⟨h.2.1,?_⟩
  have h1:=qah.1 h.1 (ps.length-1) (by omega)
  unfold pinB at h1
  rw [show decide (ps.length-1+1=ps.length)=true by simp;omega] at h1
  simp only [cond_true,jc,jD] at h1
  unfold clkAt
  rw [show ((ps.length:Int)-1).toNat=ps.length-1 by omega]
  exact h1.2.2
theorem qu9 {ps:List qaq} {a:qN} (h:pinsB ps=true) (h1:clkN ps ps.length≤1):arcI ps a=arcS ps a:=by
  obtain ⟨⟨hm,hm5⟩,hlast⟩:=qgi h
  rw [jh]
  unfold arcI arcS
  cases h45:((a.Be==4) || (a.Be==5)) with
  | true =>
    have k1:(a.Be==1)=false:=by simp at h45 ⊢;omega
    have k23:((a.Be==2) || (a.Be==3))=false:=by simp at h45 ⊢;omega
    rw [k1,k23]
    simp only [cond_true,cond_false,jc,qa1,decide_eq_true_eq,beq_iff_eq,jD,beq_eq_false_iff_ne,ne_eq]
    constructor
    · rintro ⟨hs,hsl,hd,hf,hf0,ht,hne⟩
      obtain ⟨hl,hc⟩:=(qok h1 hf0).1 hf.symm
      have hfl:a.Bk ≠ (ps.length:Int)-1:=by intro e;rw [e,hlast] at hc;cases hc
      refine ⟨⟨⟨hf0,by omega⟩,⟨ht.1,by omega⟩⟩,hc,by omega,?_,hs,hd,hsl⟩
      cases hct:clkAt ps a.To with
      | false=>rfl
      | true =>
        have:=(qok h1 ht.1).2 ⟨by omega,hct⟩
        omega
    · rintro ⟨⟨hf,ht⟩,hc,hlt,hct,hs,hd,hsl⟩
      have:=(qok h1 hf.1).2 ⟨by omega,hc⟩
      refine ⟨hs,hsl,hd,this.symm,hf.1,⟨ht.1,by omega⟩,?_⟩
      intro e
      rw [e,hc] at hct
      cases hct
  | false =>
    simp only [cond_false,jc,qa1,beq_iff_eq]
    cases (a.Be==1)
    · cases ((a.Be==2) || (a.Be==3))
      · simp
      · simp only [cond_true,cond_false,jc,beq_iff_eq]
        constructor
        · rintro ⟨⟨h1,h2,h3,h4⟩,h5,h6⟩
          exact ⟨⟨h4,by omega⟩,h5,h3,h6,h1,h2⟩
        · rintro ⟨⟨h4,h7⟩,h5,h3,h6,h1,h2⟩
          exact ⟨⟨h1,h2,h3,h4⟩,h5,h6⟩
    · simp only [cond_true,jc,qa1,jD,beq_iff_eq]
      constructor
      · rintro ⟨⟨h1,h2,h3,h4⟩,h5,h6⟩
        exact ⟨⟨h4,by omega⟩,h5,h3,h6,h1,h2⟩
      · rintro ⟨⟨h4,h7⟩,h5,h3,h6,h1,h2⟩
        exact ⟨⟨h1,h2,h3,h4⟩,h5,h6⟩
theorem qrd {ps:List qaq} {a:qN} (h:arcS ps a=true):1≤a.Be∧a.Be≤5:=by
  unfold arcS at h
  rw [jc] at h
  have h:=h.2
  cases h1:(a.Be==1)
  · cases h2:((a.Be==2) || (a.Be==3))
    · cases h4:((a.Be==4) || (a.Be==5))
      · rw [h1,h2,h4] at h;cases h
      · simp at h4;omega
    · simp at h2;omega
  · simp at h1;omega
def sameArc (x y:qN):Bool:=(x.Be==y.Be)&&((x.Bk==y.Bk)&&(x.To==y.To))
def newArc (ar:List qN) (j:Nat):Bool:=allN (fun i=>!sameArc (gt ar i) (gt ar j)) j
theorem qta {c:qA} (h:okL qmC c.Bd) (ha:okL qnh c.Ar) (hm:2≤c.Bd.length):Ev (fun n=>qf6 n c) (allN (fun j=>arcI c.Bd (gt c.Ar j)&&newArc c.Ar j) c.Ar.length&&decide (c.Ar.length≤8)):=by
  have hl:=ha.len
  have h1:∀ (ar:List qN) (y:qN),ar.length≤1048576→Ev (fun n=>qas n ar y) (ar.any fun x=>sameArc x y):=by
    intro ar y hl
    unfold qas
    refine Ev.bind (b:=ixL (fun x=>sameArc x y) ar) (qe6 (fin:=(ar.length:Int)) (Lf:=qI ar y) (pf:=fun n x=>qeX n x y) (fun x _=>?_)
      (fun n=>by simp only [qI,qk (jb _),cond_false])
      (fun n j x hx=>by
        have hj:=(List.getElem?_eq_some_iff.1 hx).1
        simp only [qI,qj hj,cond_true,qau hx,ja,wS j])
      (fun n=>by unfold qaY;congr 1;funext o;cases o<;>rfl)) (Ev.now (by rw [qmH]))
    unfold qeX sameArc
    exact Ev.andP fun _=>Ev.andP fun _=>.done
  have hL:Ev (fun n=>qcd c n 0) (bif allN (fun j=>arcI c.Bd (gt c.Ar j)&&newArc c.Ar j) c.Ar.length then .nxt (c.Ar.length:Int) else .ret false):=by
    refine qd1 ?_ (fun j hj X hX=>Ev.succ ?_)
    · exact Ev.succ (by simp only [qcd,qk (jb _),cond_false];exact .done)
    · simp only [qcd,qj hj,cond_true,qB hj,ja,quW (Nat.le_of_lt hj),wS j]
      refine Ev.chk (qu8 h (ql6 ha hj) hm) fun _=>Ev.chkT1 ?_ (fun _=>hX)
      refine (h1 _ _ (by simp;omega)).cast ?_
      rw [qvT (Nat.le_of_lt hj)];rfl
  unfold qf6
  refine Ev.bind hL ?_
  cases allN (fun j=>arcI c.Bd (gt c.Ar j)&&newArc c.Ar j) c.Ar.length
  · exact .done
  · refine Ev.now ?_
    show some (decide ((c.Ar.length:Int)≤((8:Nat):Int)))=some (true&&decide (c.Ar.length≤8))
    rw [qmP,jw]
def hasB (ar:List qN) (k:Int):Bool:=ar.any fun a=>a.Be==k
theorem qop {c:qA} {k:Int} (hl:c.Ar.length≤1048576):Ev (fun n=>qc4 n c k) (hasB c.Ar k):=by
  unfold qc4 qbe
  exact Ev.last (Ev.bind (b:=ixL (fun x=>x.Be==k) c.Ar) (qe6 (fin:=(c.Ar.length:Int)) (Lf:=qW c.Ar k) (pf:=fun n x=>qjl n x k) (fun x _=>.done)
      (fun n=>by simp only [qW,qk (jb _),cond_false])
      (fun n j x hx=>by
        have hj:=(List.getElem?_eq_some_iff.1 hx).1
        simp only [qW,qj hj,cond_true,qau hx,ja,wS j])
      (fun n=>by unfold qbo;congr 1;funext o;cases o<;>rfl)) (Ev.now (by rw [qmH];rfl)))
def kindN (ar:List qN) (k:Nat) (j:Nat):Nat:=cntP (fun i=>(gt ar i).Be==(k:Int)) j
theorem qrm {ar:List qN} {k:Nat}:decide (((kindN ar k ar.length:Nat):Int) > 0)=hasB ar k:=by
  rw [show decide (((kindN ar k ar.length:Nat):Int) > 0)=decide (0<kindN ar k ar.length) by simp]
  unfold kindN hasB
  rw [qso,qsY]
theorem qs2 {ar:List qN} {k:Nat}:(((kindN ar k ar.length:Nat):Int)==0) = !hasB ar k:=by
  rw [←qrm,jh];simp
theorem qsb {c:qA} (ha:okL qnh c.Ar) (hk:∀ j,j<c.Ar.length→1≤(gt c.Ar j).Be∧(gt c.Ar j).Be≤5):Ev (fun n=>qiG n c) (vecC (fun k=>kindN c.Ar k c.Ar.length) 6):=by
  have hl:=ha.len
  have hL:Ev (fun n=>qcZ c n (vecC (fun _=>0) 6) 0) (vecC (fun k=>kindN c.Ar k c.Ar.length) 6,(c.Ar.length:Int)):=by
    refine loopF (Lf:=qcZ c) (S:=fun j=>vecC (fun k=>kindN c.Ar k j) 6) (len:=c.Ar.length) (fun n=>?_) (fun j hj X hX=>?_)
    · simp only [qcZ,qk (jb _),cond_false]
    · obtain ⟨k1,k5⟩:=hk j hj
      have ek:(gt c.Ar j).Be=(((gt c.Ar j).Be.toNat:Nat):Int):=qfY (by omega)
      have hc:kindN c.Ar (gt c.Ar j).Be.toNat j≤j:=qfw
      simp only [qcZ,qj hj,cond_true,qB hj,ja,wS j]
      rw [ek,qka (show (gt c.Ar j).Be.toNat<6 by omega)]
      simp only [ja]
      rw [qq0 (c:=fun k=>kindN c.Ar k j) (by show kindN c.Ar _ j<_;omega)]
      have:vecC (fun i=>kindN c.Ar i j+(bif decide ((gt c.Ar j).Be.toNat=i) then 1 else 0)) 6=vecC (fun k=>kindN c.Ar k (j+1)) 6:=by
        refine qkc (fun k _=>?_)
        show _=kindN c.Ar k j+(bif (gt c.Ar j).Be==(k:Int) then 1 else 0)
        congr 2
        rw [jh];simp;omega
      rw [this]
      exact hX
  unfold qiG
  rw [show mkS 6 (0:Int)=some (vecC (fun _=>0) 6) from qmW (m:=6) (by omega)]
  simp only [ja]
  exact Ev.bind hL .done
def kindB (c:qA):Bool :=
  bif c.Be==1 then (((clkN c.Bd c.Bd.length:Nat):Int)==0)&&(((c.Br.length:Int)==((2 ^ (c.Bd.length-1):Nat):Int))&&(c.Br.all fun x=>inI x 0 1))
  else bif c.Be==2 then (((clkN c.Bd c.Bd.length:Nat):Int)==1)&&(((c.Br.length:Int)==0)&&(!hasB c.Ar 1&&!(hasB c.Ar 2==hasB c.Ar 3)))
  else bif c.Be==3 then (((clkN c.Bd c.Bd.length:Nat):Int)==1)&&(((c.Br.length:Int)==0)&&(hasB c.Ar 1&&(hasB c.Ar 2&&!hasB c.Ar 3)))
  else false
theorem qq2 {c:qA} (h:kindB c=true):clkN c.Bd c.Bd.length≤1:=by
  unfold kindB at h
  cases h1:(c.Be==1)
  · cases h2:(c.Be==2)
    · cases h3:(c.Be==3)
      · rw [h1,h2,h3] at h;cases h
      · rw [h1,h2,h3] at h
        simp only [cond_true,cond_false,jc,beq_iff_eq] at h
        omega
    · rw [h1,h2] at h
      simp only [cond_true,cond_false,jc,beq_iff_eq] at h
      omega
  · rw [h1] at h
    simp only [cond_true,jc,beq_iff_eq] at h
    omega
theorem qsR {m:Nat} (h1:2≤m) (h2:m≤5):shlS 1 (W64 ((m:Int)-1))=some ((2 ^ (m-1):Nat):Int)∧shlS 1 (IntKind.wrap .u64 (W64 ((m:Int)-1)))=some ((2 ^ (m-1):Nat):Int):=by
  have:m=2∨m=3∨m=4∨m=5:=by omega
  rcases this with rfl|rfl|rfl|rfl<;>exact ⟨by decide,by decide⟩
theorem qsi {c:qA} (hc:qmN c) (hm:2≤c.Bd.length) (hm5:c.Bd.length≤5):Ev (fun n=>qfy n c) (kindB c):=by
  have hl:=hc.Bd.len
  have hL:Ev (fun n=>qaZ c n 0 0) (((clkN c.Bd c.Bd.length:Nat):Int),(c.Bd.length:Int)):=by
    refine loopF (Lf:=qaZ c) (S:=fun j=>((clkN c.Bd j:Nat):Int)) (len:=c.Bd.length) (fun n=>?_) (fun j hj X hX=>?_)
    · simp only [qaZ,qk (jb _),cond_false]
    · have hn:clkN c.Bd j≤j:=qfw
      simp only [qaZ,qj hj,cond_true,qB hj,ja,wS j,qie (show clkN c.Bd j<9223372036854775807 by omega)]
      have hck:clkN c.Bd (j+1)=clkN c.Bd j+(bif (gt c.Bd j).Bp then 1 else 0):=rfl
      rw [hck] at hX
      cases hc:(gt c.Bd j).Bp
      · rw [hc] at hX;exact Ev.ff rfl hX
      · rw [hc] at hX;exact Ev.tt rfl hX
  unfold qfy kindB
  refine Ev.bind hL ?_
  simp only [qdO,qcg,ja,(qsR hm hm5).1]
  have hal:=hc.Ar.len
  refine Ev.iff (fun _=>?_) (fun _=>Ev.iff (fun _=>?_) (fun _=>Ev.iff (fun _=>?_) (fun _=>.done)))
  · exact Ev.andP fun _=>Ev.andP fun _=>Ev.last (qeF hc.Br.len)
  · exact Ev.andP fun _=>Ev.andP fun _=>Ev.bind (qop hal) (Ev.andP fun _=>Ev.bind (qop hal) (Ev.bind (qop hal) .done))
  · exact Ev.andP fun _=>Ev.andP fun _=>Ev.and (qop hal) fun _=>Ev.and (qop hal) fun _=>Ev.bind (qop hal) .done
def cellB (c:qA):Bool :=
  nameB c.Bb&&(pinsB c.Bd&&((allN (fun j=>arcI c.Bd (gt c.Ar j)&&newArc c.Ar j) c.Ar.length&&decide (c.Ar.length≤8))&&(inI c.Ca 0 100000&&(inI c.Bu 0 100000&&kindB c))))
theorem quN {c:qA} (hc:qmN c):Ev (fun n=>qkI n c) (cellB c):=by
  simp only [qkI,qom hc.Bb,qc0,ja]
  unfold cellB
  refine Ev.andP fun _=>Ev.and (qsX hc.Bd) fun hp=>?_
  obtain ⟨⟨hm,hm5⟩,_⟩:=qgi hp
  exact Ev.and (qta hc.Bd hc.Ar hm) fun _=>Ev.andP fun _=>Ev.andP fun _=>Ev.last (qsi hc hm hm5)
theorem qs9 {c:qA} (hc:qmN c):Ev (fun n=>qkO n c) (cellB c):=by
  have hal:=hc.Ar.len
  have htl:=hc.Br.len
  have e:cellB c=((pinsB c.Bd&&(nameB c.Bb&&(decide (c.Ar.length≤8)&&(inI c.Ca 0 100000&&inI c.Bu 0 100000))))&&(allN (fun j=>arcS c.Bd (gt c.Ar j)&&newArc c.Ar j) c.Ar.length&&kindB c)):=by
    unfold cellB
    cases hk:kindB c
    · simp
    · cases hp:pinsB c.Bd
      · simp
      · rw [qhr (fun j _=>by rw [qu9 hp (qq2 hk)])]
        cases nameB c.Bb<;>cases allN (fun j=>arcS c.Bd (gt c.Ar j)&&newArc c.Ar j) c.Ar.length<;>cases decide (c.Ar.length≤8)<;>cases inI c.Ca 0 100000<;>cases inI c.Bu 0 100000<;>rfl
  rw [e]
  unfold qkO
  refine Ev.bind (qs3 hc.Bd) ?_
  cases hp:pinsB c.Bd
  · exact .done
  · obtain ⟨⟨hm,hm5⟩,_⟩:=qgi hp
    simp only [cond_true,jw,jW,cond_false]
    refine Ev.guardB ?_ (fun _=>?_)
    · simp only [qcp,ja,qcP]
      refine Ev.orB (qls hc.Bb) fun _=>?_
      rw [show decide ((c.Ar.length:Int) > 8) = !decide (c.Ar.length≤8) by rw [jh];simp;omega,qcP]
      exact Ev.orBP fun _=>Ev.orBP fun _=>.done
    · have hL2:∀ j,j<c.Ar.length→Ev (fun n=>qc6 c (j:Int) (gt c.Ar j) n 0) (bif newArc c.Ar j then .nxt (j:Int) else .ret false):=by
        intro j hj
        refine qd1 ?_ (fun i hi X hX=>Ev.succ ?_)
        · exact Ev.succ (by simp only [qc6,qk (jb _),cond_false];exact .done)
        · simp only [qc6,qj hi,cond_true,qB (show i<c.Ar.length by omega),ja,wS i]
          unfold sameArc
          cases ((gt c.Ar i).Be==(gt c.Ar j).Be)
          · exact hX
          · cases ((gt c.Ar i).Bk==(gt c.Ar j).Bk)
            · exact hX
            · cases ((gt c.Ar i).To==(gt c.Ar j).To)
              · exact hX
              · exact .done
      have hL1:Ev (fun n=>qe5 c n 0) (bif allN (fun j=>arcS c.Bd (gt c.Ar j)&&newArc c.Ar j) c.Ar.length then .nxt (c.Ar.length:Int) else .ret false):=by
        refine qd1 ?_ (fun j hj X hX=>Ev.succ ?_)
        · exact Ev.succ (by simp only [qe5,qk (jb _),cond_false];exact .done)
        · simp only [qe5,qj hj,cond_true,qB hj,ja,wS j]
          refine Ev.chk (quV hc.Bd (ql6 hc.Ar hj) hm) fun _=>Ev.bind (hL2 j hj) ?_
          cases newArc c.Ar j
          · exact .done
          · exact hX
      have hL3:Ev (fun n=>qe4 c n 0) (bif (c.Br.all fun x=>inI x 0 1) then .nxt (c.Br.length:Int) else .ret false) :=
        qnO (fun n=>by simp only [qe4,qk (jb _),cond_false]) (fun j hj X hX=>by
          simp only [qe4,qj hj,cond_true,qhF hj,ja,qcp,wS j,qcP]
          exact Ev.okP1 fun _=>hX)
      refine Ev.bind hL1 ?_
      cases hA:allN (fun j=>arcS c.Bd (gt c.Ar j)&&newArc c.Ar j) c.Ar.length
      · exact .done
      · have hk:∀ j,j<c.Ar.length→1≤(gt c.Ar j).Be∧(gt c.Ar j).Be≤5:=fun j hj=>by
          have:=qah.1 hA j hj
          rw [jc] at this
          exact qrd this.1
        simp only [cond_true,jw]
        refine Ev.bind (qsb hc.Ar hk) ?_
        simp only [(qsR hm hm5).2,ja,
          show idx (vecC (fun k=>kindN c.Ar k c.Ar.length) 6) (1:Int)=some ((kindN c.Ar 1 c.Ar.length:Nat):Int) from qka (k:=1) (by omega),
          show idx (vecC (fun k=>kindN c.Ar k c.Ar.length) 6) (2:Int)=some ((kindN c.Ar 2 c.Ar.length:Nat):Int) from qka (k:=2) (by omega),
          show idx (vecC (fun k=>kindN c.Ar k c.Ar.length) 6) (3:Int)=some ((kindN c.Ar 3 c.Ar.length:Nat):Int) from qka (k:=3) (by omega),qrm,qs2]
        unfold kindB
        refine Ev.iff (fun _=>?_) (fun _=>Ev.iff (fun _=>?_) (fun _=>Ev.iff (fun _=>?_) (fun _=>.done)))
        · refine Ev.bind hL3 ?_
          cases (c.Br.all fun x=>inI x 0 1)
          · exact Ev.now (by simp)
          · exact (Ev.andP (fun _=>.done)).cast (by rw [Bool.and_true])
        · refine (Ev.andP fun _=>Ev.andP fun _=>Ev.andP fun _=>.done).cast ?_
          cases (((clkN c.Bd c.Bd.length:Nat):Int)==1)<;>cases ((c.Br.length:Int)==0)<;>cases hasB c.Ar ((1:Nat):Int)<;>cases hasB c.Ar ((2:Nat):Int)<;>cases hasB c.Ar ((3:Nat):Int)<;>rfl
        · refine (Ev.andP fun _=>Ev.andP fun _=>Ev.andP fun _=>Ev.andP fun _=>.done).cast ?_
          cases (((clkN c.Bd c.Bd.length:Nat):Int)==1)<;>cases ((c.Br.length:Int)==0)<;>cases hasB c.Ar ((1:Nat):Int)<;>cases hasB c.Ar ((2:Nat):Int)<;>cases hasB c.Ar ((3:Nat):Int)<;>rfl
def libB (l:qp):Bool:=l.Aq.all cellB&&(decide (l.Aq.length≤8)&&namesB (l.Aq.map qA.Bb))
theorem qrM {l:qp} (h:qhq l):Ev (fun n=>qif n l) (libB l):=by
  have hl:=h.Aq.len
  have hL:Ev (fun n=>qcx l n ([]:List ByteArray) 0) (bif allN (fun j=>cellB (gt l.Aq j)) l.Aq.length then .nxt (l.Aq.map qA.Bb,(l.Aq.length:Int)) else .ret false):=by
    refine loopN (Lf:=qcx l) (S:=fun j=>(l.Aq.take j).map qA.Bb) (fun j=>cellB (gt l.Aq j)) (fun n=>?_) (fun j hj hp X hX=>?_)
    · simp only [qcx,qk (jb _),cond_false,jB]
    · simp only [qcx,qj hj,cond_true,qB hj,ja,qk5 hj hl,qfm (g:=qA.Bb) hj,wS j]
      exact Ev.chk1 (quN (ql6 h.Aq hj)) hX
  unfold qif libB
  rw [qhT]
  refine Ev.bind hL ?_
  cases allN (fun j=>cellB (gt l.Aq j)) l.Aq.length
  · exact .done
  · simp only [cond_true,jw,show decide ((l.Aq.length:Int)≤8)=decide (l.Aq.length≤8) from qmP (k:=8)]
    exact Ev.andP fun _=>Ev.last (qiX (qmK h.Aq (fun x hx=>hx.Bb)))
end Go.Fw


namespace Go.Fw
open Go
set_option maxRecDepth 100000
theorem qtF {c:qA} (h:cellB c=true):nameB c.Bb=true:=by
 unfold cellB at h;rw [jc] at h;exact h.1
theorem qiq {c:qA} (h:cellB c=true):pinsB c.Bd=true:=by
 unfold cellB at h;simp only [jc] at h;exact h.2.1
theorem qqN {l:qp} (h:qhq l):Ev (fun n=>qhB n l) (libB l):=by
 have hl:=h.Aq.len
 have hL2:∀ j,j<l.Aq.length→Ev (fun n=>qdh l (j:Int) n 0) (bif allN (neB (l.Aq.map qA.Bb) j) j then .nxt (j:Int) else .ret false):=by
  intro j hj
  refine qd1 ?_ (fun i hi X hX=>Ev.succ ?_)
  ·exact Ev.succ (by simp only [qdh,qk (jb _),cond_false];exact .done)
  ·simp only [qdh,qj hi,cond_true,qB (show i<l.Aq.length by omega),qB hj,ja,qg8,wS i]
   unfold neB
   rw [qjN (g:=qA.Bb) (show i<l.Aq.length by omega),qjN (g:=qA.Bb) hj]
   exact Ev.chkP1 (fun _=>hX)
 have hL1:Ev (fun n=>qdk l n 0) (bif allN (fun j=>cellB (gt l.Aq j)&&allN (neB (l.Aq.map qA.Bb) j) j) l.Aq.length then .nxt (l.Aq.length:Int) else .ret false):=by
  refine qd1 ?_ (fun j hj X hX=>Ev.succ ?_)
  ·exact Ev.succ (by simp only [qdk,qk (jb _),cond_false];exact .done)
  ·simp only [qdk,qj hj,cond_true,qB hj,ja,wS j]
   refine Ev.chk (qs9 (ql6 h.Aq hj)) fun _=>Ev.bind (hL2 j hj) ?_
   cases allN (neB (l.Aq.map qA.Bb) j) j
   ·exact .done
   ·exact hX
 have e:libB l=(allN (fun j=>cellB (gt l.Aq j)&&allN (neB (l.Aq.map qA.Bb) j) j) l.Aq.length&&decide (l.Aq.length≤8)):=by
  unfold libB namesB
  rw [qhT,jv,Bool.and_comm (decide (l.Aq.length≤8)),←Bool.and_assoc,←qli]
  congr 1
  refine qhr (fun j hj=>?_)
  rw [qjN (g:=qA.Bb) hj]
  cases hc:cellB (gt l.Aq j)
  ·rfl
  ·rw [qtF hc];rfl
 rw [e]
 unfold qhB
 refine Ev.bind hL1 ?_
 cases allN (fun j=>cellB (gt l.Aq j)&&allN (neB (l.Aq.map qA.Bb) j) j) l.Aq.length
 ·exact .done
 ·refine Ev.now ?_
  show some (decide ((l.Aq.length:Int)≤((8:Nat):Int)))=some (true&&decide (l.Aq.length≤8))
  rw [qmP,jw]
theorem qkY {c c':Nat→Nat} {m:Nat} {x:Int} (h0:0≤x) (h1:x<m) (hc:c x.toNat<9223372036854775807) (he:∀ k,k<m→c' k=c k+(bif x==(k:Int) then 1 else 0)) :
  idx (vecC c m) x=some (c x.toNat:Int)∧setS (vecC c m) x (W64 ((c x.toNat:Int)+1))=vecC c' m:=by
 have ex:x=(x.toNat:Int):=qfY h0
 have e1:=qka (c:=c) (m:=m) (k:=x.toNat) (by omega)
 have e2:=qq0 (c:=c) (m:=m) (k:=x.toNat) hc
 rw [←ex] at e1 e2
 refine ⟨e1,e2.trans (qkc (fun k hk=>?_))⟩
 rw [he k hk]
 congr 2
 rw [jh];simp;omega
def netB (d:qd) (x:Int):Bool:=inI x 0 ((d.Am.length:Int)-1)
theorem qsB {n:Nat} {d:qd} {x:Int} (hl:d.Am.length≤1048576):qdj n d x=some (netB d x):=by
 simp only [qdj,qho,ja,qc0,qeq (show d.Am.length≤9223372036854775807 by omega)];rfl
theorem qq8 {n:Nat} {d:qd} {x:Int} (hl:d.Am.length≤1048576):qap n x 0 (W64 ((d.Am.length:Int)-1))=some (netB d x):=by
 rw [qcp,qeq (show d.Am.length≤9223372036854775807 by omega)];rfl
def hasNamesB (d:qd):Bool:=(decide (d.Aa.length≤14)&&(decide (d.Am.length≤30)&&decide (d.Aj.length≤8)))&&(namesB (d.Aa.map qn.Bb)&&(namesB d.Am&&namesB (d.Aj.map qaj.Bb)))
theorem qsf {d:qd} (h:qjJ d):Ev (fun n=>qeJ n d) (hasNamesB d):=by
 have hli:=h.Aa.len
 have hlp:=h.Aj.len
 have hL1:Ev (fun n=>qa5 d n ([]:List ByteArray) 0) (d.Aa.map qn.Bb,(d.Aa.length:Int)):=by
  refine loopF (Lf:=qa5 d) (S:=fun j=>(d.Aa.take j).map qn.Bb) (len:=d.Aa.length) (fun n=>?_) (fun j hj X hX=>?_)
  ·simp only [qa5,qk (jb _),cond_false,jB]
  ·simpa only [qa5,qj hj,cond_true,qB hj,ja,qk5 hj hli,qfm (g:=qn.Bb) hj,wS j] using hX
 have hL2:Ev (fun n=>qa8 d n ([]:List ByteArray) 0) (d.Aj.map qaj.Bb,(d.Aj.length:Int)):=by
  refine loopF (Lf:=qa8 d) (S:=fun j=>(d.Aj.take j).map qaj.Bb) (len:=d.Aj.length) (fun n=>?_) (fun j hj X hX=>?_)
  ·simp only [qa8,qk (jb _),cond_false,jB]
  ·simpa only [qa8,qj hj,cond_true,qB hj,ja,qk5 hj hlp,qfm (g:=qaj.Bb) hj,wS j] using hX
 unfold qeJ hasNamesB
 refine Ev.bind hL1 (Ev.bind hL2 ?_)
 simp only [jv]
 rw [show decide ((d.Aa.length:Int)≤14)=decide (d.Aa.length≤14) from qmP (k:=14),show decide ((d.Am.length:Int)≤30)=decide (d.Am.length≤30) from qmP (k:=30),show decide ((d.Aj.length:Int)≤8)=decide (d.Aj.length≤8) from qmP (k:=8)]
 rw [Bool.and_assoc,Bool.and_assoc]
 exact Ev.andP fun _=>Ev.andP fun _=>Ev.andP fun _=>Ev.and (qiX (qmK h.Aa (fun x hx=>hx.Bb))) fun _=>Ev.and (qiX h.Am) fun _=>Ev.last (qiX (qmK h.Aj (fun x hx=>hx.Bb)))
def instB (l:qp) (d:qd) (x:qn):Bool:=inI x.Bs 0 ((l.Aq.length:Int)-1)&&(((x.Am.length:Int)==((gt l.Aq x.Bs.toNat).Bd.length:Int))&&x.Am.all (netB d))
theorem qqx {d:qd} {l:qp} {x:qn} (hn:d.Am.length≤1048576) (hc:l.Aq.length≤1048576) (hx:x.Am.length≤1048576):Ev (fun n=>qdC n d l x) (instB l d x):=by
 simp only [qdC,qfX,ja,qc0,qeq (show l.Aq.length≤9223372036854775807 by omega)]
 unfold instB
 refine Ev.andP fun hI=>?_
 rw [qa1] at hI
 rw [qdt hI.1 (by omega)]
 simp only [ja]
 refine Ev.andP fun _=>Ev.bind (b:=x.Am.any fun y=>!netB d y) ?_ (Ev.now (by rw [qn4]))
 unfold qaK
 exact Ev.bind (b:=ixL (fun y=>!netB d y) x.Am) (qe6 (fin:=(x.Am.length:Int)) (Lf:=qG x.Am d) (pf:=fun n y=>qc3 n y d) (fun y _=>⟨0,fun n _=>by simp only [qc3,qsB hn,ja]⟩)
   (fun n=>by simp only [qG,qk (jb _),cond_false])
   (fun n j y hx=>by
    have hj:=(List.getElem?_eq_some_iff.1 hx).1
    simp only [qG,qj hj,cond_true,qau hx,ja,wS j])
   (fun n=>by unfold qaV;congr 1;funext o;cases o<;>rfl)) (Ev.now (by rw [qmH]))
def portB (d:qd) (p:qaj):Bool:=inI p.Bv 1 2&&netB d p.Bx
theorem qxp {x:Int}:inI x 1 2=((x==1) || (x==2)):=by
 unfold inI;rw [jh];simp;omega
def lastN (x:qn):Int:=at0 x.Am (x.Am.length-1)
theorem qsk {x:qn} (h1:1≤x.Am.length) (h2:x.Am.length≤1048576):idx x.Am (W64 ((x.Am.length:Int)-1))=some (lastN x):=by
 rw [qeq (by omega),show ((x.Am.length:Int)-1)=((x.Am.length-1:Nat):Int) by omega,qae (by omega)];rfl
theorem quh {d:qd} {x:qn} (h1:1≤x.Am.length) (h:x.Am.all (netB d)=true):0≤lastN x∧lastN x<d.Am.length:=by
 rw [qge (d:=0),qah] at h
 have:=h (x.Am.length-1) (by omega)
 unfold netB at this
 rw [qa1] at this
 unfold lastN at0
 omega
theorem qpG {l:qp} {d:qd} {x:qn} (hl:libB l=true) (h:instB l d x=true):1≤x.Am.length∧0≤lastN x∧lastN x<d.Am.length:=by
 unfold instB at h
 simp only [jc,qa1,beq_iff_eq] at h
 obtain ⟨h1,h2,h3⟩:=h
 unfold libB at hl
 simp only [jc] at hl
 have hc:=hl.1
 rw [qhT,qah] at hc
 have:=qgi (qiq (hc x.Bs.toNat (by omega)))
 have h4:1≤x.Am.length:=by omega
 exact ⟨h4,quh h4 h3⟩
def drvI (d:qd) (k j:Nat):Nat:=cntP (fun i=>lastN (gt d.Aa i)==(k:Int)) j
def drvP (d:qd) (k j:Nat):Nat:=cntP (fun i=>((gt d.Aj i).Bv==1)&&((gt d.Aj i).Bx==(k:Int))) j
def drvB (d:qd):Bool:=allN (fun k=>((drvI d k d.Aa.length+drvP d k d.Aj.length:Nat):Int)==1) d.Am.length
def designB (l:qp) (d:qd):Bool:=(libB l&&hasNamesB d)&&(d.Aa.all (instB l d)&&(d.Aj.all (portB d)&&drvB d))
theorem qoo {d:qd} {k j:Nat}:drvI d k (j+1)=drvI d k j+(bif lastN (gt d.Aa j)==(k:Int) then 1 else 0):=rfl
theorem qmT {d:qd} {k j:Nat}:drvP d k (j+1)=drvP d k j+(bif ((gt d.Aj j).Bv==1)&&((gt d.Aj j).Bx==(k:Int)) then 1 else 0):=rfl
theorem qsV {l:qp} {d:qd} (h:qhq l) (hd:qjJ d):Ev (fun n=>qiA n l d) (designB l d):=by
 have hli:=hd.Aa.len
 have hlp:=hd.Aj.len
 have hln:=hd.Am.len
 have hlc:=h.Aq.len
 unfold qiA designB
 refine Ev.guardB (Ev.or (qrM h) fun _=>Ev.neg (qsf hd)) fun hb=>?_
 rw [jc] at hb
 rw [qmW (m:=d.Am.length) (by omega)]
 simp only [ja]
 have hL1:Ev (fun n=>qcU l d n (vecC (fun _=>0) d.Am.length) 0) (bif allN (fun j=>instB l d (gt d.Aa j)) d.Aa.length then .nxt (vecC (fun k=>drvI d k d.Aa.length) d.Am.length,(d.Aa.length:Int)) else .ret false):=by
  refine loopN (Lf:=qcU l d) (S:=fun j=>vecC (fun k=>drvI d k j) d.Am.length) (fun j=>instB l d (gt d.Aa j)) (fun n=>?_) (fun j hj hp X hX=>?_)
  ·simp only [qcU,qk (jb _),cond_false]
  ·simp only [qcU,qj hj,cond_true,qB hj,ja,wS j]
   have hxl:=(ql6 hd.Aa hj).Am.len
   refine Ev.chk1 (qqx hln hlc hxl) fun hi=>?_
   obtain ⟨h1,h2,h3⟩:=qpG hb.1 hi
   have hc:drvI d (lastN (gt d.Aa j)).toNat j≤j:=qfw
   obtain ⟨e1,e2⟩:=qkY (c:=fun k=>drvI d k j) (c':=fun k=>drvI d k (j+1)) h2 h3 (by show drvI _ _ _<_;omega) (fun k _=>qoo)
   simp only [qsk h1 hxl,ja,e1,e2]
   exact hX hi
 have hL2:Ev (fun n=>qca d n (vecC (fun k=>drvI d k d.Aa.length) d.Am.length) 0) (bif allN (fun j=>portB d (gt d.Aj j)) d.Aj.length then .nxt (vecC (fun k=>drvI d k d.Aa.length+drvP d k d.Aj.length) d.Am.length,(d.Aj.length:Int)) else .ret false):=by
  refine loopN (Lf:=qca d) (S:=fun j=>vecC (fun k=>drvI d k d.Aa.length+drvP d k j) d.Am.length) (fun j=>portB d (gt d.Aj j)) (fun n=>?_) (fun j hj hp X hX=>?_)
  ·simp only [qca,qk (jb _),cond_false]
  ·simp only [qca,qj hj,cond_true,qB hj,ja,qsB hln,bne,wS j]
   refine Ev.chkT1 ?_ fun hi=>?_
   ·unfold portB
    rw [qxp]
    cases ((gt d.Aj j).Bv==1)<;>cases ((gt d.Aj j).Bv==2)<;>exact .done
   ·have hX:=hX hi
    unfold portB netB at hi
    simp only [jc,qa1] at hi
    have hc1:drvI d (gt d.Aj j).Bx.toNat d.Aa.length≤d.Aa.length:=qfw
    have hc2:drvP d (gt d.Aj j).Bx.toNat j≤j:=qfw
    cases h1:((gt d.Aj j).Bv==1)
    ·have:vecC (fun k=>drvI d k d.Aa.length+drvP d k (j+1)) d.Am.length=vecC (fun k=>drvI d k d.Aa.length+drvP d k j) d.Am.length:=by
      refine qkc (fun k _=>?_)
      rw [qmT,h1];rfl
     rw [this] at hX
     exact hX
    ·obtain ⟨e1,e2⟩:=qkY (c:=fun k=>drvI d k d.Aa.length+drvP d k j) (c':=fun k=>drvI d k d.Aa.length+drvP d k (j+1)) (x:=(gt d.Aj j).Bx) (m:=d.Am.length) hi.2.1 (by omega) (by show drvI _ _ _+drvP _ _ _<_;omega) (fun k _=>by rw [qmT,h1,jw];omega)
     simp only [cond_true,ja,e1,e2]
     exact hX
 rw [qhT,qhT]
 refine Ev.bind hL1 ?_
 cases allN (fun j=>instB l d (gt d.Aa j)) d.Aa.length
 ·exact .done
 ·refine Ev.bind hL2 ?_
  cases allN (fun j=>portB d (gt d.Aj j)) d.Aj.length
  ·exact .done
  ·simp only [cond_true,jw]
   unfold qbB
   refine Ev.bind (b:=(vecC (fun k=>drvI d k d.Aa.length+drvP d k d.Aj.length) d.Am.length).any fun x=>!(x==1)) (Ev.bind (b:=ixL (fun x=>!(x==1)) (vecC (fun k=>drvI d k d.Aa.length+drvP d k d.Aj.length) d.Am.length)) (qe6 (fin:=(((vecC (fun k=>drvI d k d.Aa.length+drvP d k d.Aj.length) d.Am.length).length:Nat):Int)) (Lf:=qag (vecC (fun k=>drvI d k d.Aa.length+drvP d k d.Aj.length) d.Am.length)) (pf:=fun n y=>qjm n y) (fun y _=>.done)
    (fun n=>by simp only [qag,qk (jb _),cond_false])
    (fun n j y hx=>by
     have hj:=(List.getElem?_eq_some_iff.1 hx).1
     have:j<d.Am.length:=by rw [qmo] at hj;exact hj
     simp only [qag,qj hj,cond_true,qau hx,ja,wS j])
    (fun n=>by unfold qbX;congr 1;funext o;cases o<;>rfl)) (Ev.now (by rw [qmH]))) (Ev.now ?_)
   rw [qn4,qge (d:=0),qmo]
   unfold drvB
   congr 1
   exact qhr (fun k hk=>by
    have:=qsG (c:=fun k=>drvI d k d.Aa.length+drvP d k d.Aj.length) hk
    unfold at0 at this
    rw [this])
theorem qsw {l:qp} {d:qd} (h:qhq l) (hd:qjJ d):Ev (fun n=>qiL n l d) (d.Aa.all (instB l d)&&d.Aj.all (portB d)):=by
 have hli:=hd.Aa.len
 have hlp:=hd.Aj.len
 have hln:=hd.Am.len
 have hlc:=h.Aq.len
 have hL2:∀ x:qn,x.Am.length≤1048576→Ev (fun n=>qdQ d x n 0) (bif x.Am.all (netB d) then .nxt (x.Am.length:Int) else .ret false):=fun x hx =>
  qnO (fun n=>by simp only [qdQ,qk (jb _),cond_false]) (fun j hj X hX=>by
   simp only [qdQ,qj hj,cond_true,qhF hj,ja,qq8 hln,wS j,qcP]
   exact Ev.okP1 fun _=>hX)
 have hL1:Ev (fun n=>qdV l d n 0) (bif allN (fun j=>instB l d (gt d.Aa j)) d.Aa.length then .nxt (d.Aa.length:Int) else .ret false):=by
  refine qd1 ?_ (fun j hj X hX=>Ev.succ ?_)
  ·exact Ev.succ (by simp only [qdV,qk (jb _),cond_false];exact .done)
  ·simp only [qdV,qj hj,cond_true,qB hj,ja,qcp,qeq (show l.Aq.length≤9223372036854775807 by omega),wS j,bne]
   have hxl:=(ql6 hd.Aa hj).Am.len
   unfold instB
   rw [←Bool.and_assoc]
   refine Ev.chkT ?_ fun _=>Ev.bind (hL2 _ hxl) ?_
   ·simp only [qcP]
    refine Ev.orBP fun hI=>?_
    rw [qa1] at hI
    rw [qdt hI.1 (by omega)]
    exact .done
   ·cases (gt d.Aa j).Am.all (netB d)
    ·exact .done
    ·exact hX
 have hL3:Ev (fun n=>qdR d n 0) (bif allN (fun j=>portB d (gt d.Aj j)) d.Aj.length then .nxt (d.Aj.length:Int) else .ret false):=by
  refine qd1 ?_ (fun j hj X hX=>Ev.succ ?_)
  ·exact Ev.succ (by simp only [qdR,qk (jb _),cond_false];exact .done)
  ·simp only [qdR,qj hj,cond_true,qB hj,ja,qq8 hln,wS j]
   simp only [qcp,ja,qcP]
   unfold portB
   exact Ev.okP fun _=>Ev.okP1 fun _=>hX
 unfold qiL
 rw [qhT,qhT]
 refine Ev.bind hL1 ?_
 cases allN (fun j=>instB l d (gt d.Aa j)) d.Aa.length
 ·exact .done
 ·refine Ev.bind hL3 ?_
  cases allN (fun j=>portB d (gt d.Aj j)) d.Aj.length<;>exact .done
theorem qry {l:qp} {d:qd} (h:qhq l) (hd:qjJ d):Ev (fun n=>qiJ n l d) (designB l d):=by
 have hli:=hd.Aa.len
 have hlp:=hd.Aj.len
 have hln:=hd.Am.len
 have hlc:=h.Aq.len
 have e:designB l d=((libB l&&(decide (d.Aa.length≤14)&&(decide (d.Am.length≤30)&&(decide (d.Aj.length≤8)&&(d.Aa.all (instB l d)&&d.Aj.all (portB d))))))&&((namesB (d.Aa.map qn.Bb)&&(namesB (d.Aj.map qaj.Bb)&&namesB d.Am))&&drvB d)):=by
  unfold designB hasNamesB
  generalize libB l=a1
  generalize decide (d.Aa.length≤14)=a2
  generalize decide (d.Am.length≤30)=a3
  generalize decide (d.Aj.length≤8)=a4
  generalize d.Aa.all (instB l d)=a5
  generalize d.Aj.all (portB d)=a6
  generalize namesB (d.Aa.map qn.Bb)=a7
  generalize namesB (d.Aj.map qaj.Bb)=a8
  generalize namesB d.Am=a9
  generalize drvB d=a10
  rw [jh]
  simp only [jc]
  constructor
  ·rintro ⟨⟨h1,⟨h2,h3,h4⟩,h7,h9,h8⟩,h5,h6,h10⟩
   exact ⟨⟨h1,h2,h3,h4,h5,h6⟩,⟨h7,h8,h9⟩,h10⟩
  ·rintro ⟨⟨h1,h2,h3,h4,h5,h6⟩,⟨h7,h8,h9⟩,h10⟩
   exact ⟨⟨h1,⟨h2,h3,h4⟩,h7,h9,h8⟩,h5,h6,h10⟩
 rw [e]
 unfold qiJ
 refine Ev.guardB ?_ fun hb=>?_
 ·refine Ev.or (qqN h) fun _=>?_
  rw [show decide ((d.Aa.length:Int) > 14) = !decide (d.Aa.length≤14) by rw [jh];simp;omega,show decide ((d.Am.length:Int) > 30) = !decide (d.Am.length≤30) by rw [jh];simp;omega,show decide ((d.Aj.length:Int) > 8) = !decide (d.Aj.length≤8) by rw [jh];simp;omega]
  simp only [qcP]
  exact Ev.orBP fun _=>Ev.orBP fun _=>Ev.orBP fun _=>Ev.neg (qsw h hd)
 ·simp only [jc] at hb
  obtain ⟨hlib,_,_,_,hI,hP⟩:=hb
  rw [qhT,qah] at hI hP
  have hL1:Ev (fun n=>qcX d n ([]:List ByteArray) 0) (d.Aa.map qn.Bb,(d.Aa.length:Int)):=by
   refine loopF (Lf:=qcX d) (S:=fun j=>(d.Aa.take j).map qn.Bb) (len:=d.Aa.length) (fun n=>?_) (fun j hj X hX=>?_)
   ·simp only [qcX,qk (jb _),cond_false,jB]
   ·simpa only [qcX,qj hj,cond_true,qB hj,ja,qk5 hj hli,qfm (g:=qn.Bb) hj,wS j] using hX
  have hL2:Ev (fun n=>qc1 d n ([]:List ByteArray) 0) (d.Aj.map qaj.Bb,(d.Aj.length:Int)):=by
   refine loopF (Lf:=qc1 d) (S:=fun j=>(d.Aj.take j).map qaj.Bb) (len:=d.Aj.length) (fun n=>?_) (fun j hj X hX=>?_)
   ·simp only [qc1,qk (jb _),cond_false,jB]
   ·simpa only [qc1,qj hj,cond_true,qB hj,ja,qk5 hj hlp,qfm (g:=qaj.Bb) hj,wS j] using hX
  have hL3:Ev (fun n=>qcW d n (vecC (fun _=>0) d.Am.length) 0) (vecC (fun k=>drvI d k d.Aa.length) d.Am.length,(d.Aa.length:Int)):=by
   refine loopF (Lf:=qcW d) (S:=fun j=>vecC (fun k=>drvI d k j) d.Am.length) (len:=d.Aa.length) (fun n=>?_) (fun j hj X hX=>?_)
   ·simp only [qcW,qk (jb _),cond_false]
   ·have hxl:=(ql6 hd.Aa hj).Am.len
    obtain ⟨h1,h2,h3⟩:=qpG hlib (hI j hj)
    have hc:drvI d (lastN (gt d.Aa j)).toNat j≤j:=qfw
    obtain ⟨e1,e2⟩:=qkY (c:=fun k=>drvI d k j) (c':=fun k=>drvI d k (j+1)) h2 h3 (by show drvI _ _ _<_;omega) (fun k _=>qoo)
    simpa only [qcW,qj hj,cond_true,qB hj,ja,wS j,qsk h1 hxl,e1,e2] using hX
  have hL4:Ev (fun n=>qce d n (vecC (fun k=>drvI d k d.Aa.length) d.Am.length) 0) (vecC (fun k=>drvI d k d.Aa.length+drvP d k d.Aj.length) d.Am.length,(d.Aj.length:Int)):=by
   refine loopF (Lf:=qce d) (S:=fun j=>vecC (fun k=>drvI d k d.Aa.length+drvP d k j) d.Am.length) (len:=d.Aj.length) (fun n=>?_) (fun j hj X hX=>?_)
   ·simp only [qce,qk (jb _),cond_false]
   ·have hi:=hP j hj
    unfold portB netB at hi
    simp only [jc,qa1] at hi
    have hc1:drvI d (gt d.Aj j).Bx.toNat d.Aa.length≤d.Aa.length:=qfw
    have hc2:drvP d (gt d.Aj j).Bx.toNat j≤j:=qfw
    simp only [qce,qj hj,cond_true,qB hj,ja,wS j]
    cases h1:((gt d.Aj j).Bv==1)
    ·have:vecC (fun k=>drvI d k d.Aa.length+drvP d k (j+1)) d.Am.length=vecC (fun k=>drvI d k d.Aa.length+drvP d k j) d.Am.length:=by
      refine qkc (fun k _=>?_)
      rw [qmT,h1];rfl
     rw [this] at hX
     exact hX
    ·obtain ⟨e1,e2⟩:=qkY (c:=fun k=>drvI d k d.Aa.length+drvP d k j) (c':=fun k=>drvI d k d.Aa.length+drvP d k (j+1)) (x:=(gt d.Aj j).Bx) (m:=d.Am.length) hi.2.1 (by omega) (by show drvI _ _ _+drvP _ _ _<_;omega) (fun k _=>by rw [qmT,h1,jw];omega)
     simp only [cond_true,ja,e1,e2]
     exact hX
  have hL5:Ev (fun n=>qdX (vecC (fun _=>0) d.Am.length) (vecC (fun k=>drvI d k d.Aa.length+drvP d k d.Aj.length) d.Am.length) n 0) (bif drvB d then .nxt (d.Am.length:Int) else .ret false):=by
   refine qd1 ?_ (fun j hj X hX=>Ev.succ ?_)
   ·exact Ev.succ (by simp only [qdX,qmo,qk (jb _),cond_false];exact .done)
   ·simp only [qdX,qmo,qj hj,cond_true,qka hj,ja,bne,qcP,wS j]
    exact Ev.okP1 fun _=>hX
  refine Ev.bind hL1 (Ev.bind hL2 ?_)
  refine Ev.guardB (Ev.or (qmh (qmK hd.Aa (fun x hx=>hx.Bb))) fun _=>Ev.or (qmh (qmK hd.Aj (fun x hx=>hx.Bb))) fun _=>Ev.neg (qmh hd.Am)) fun _=>?_
  rw [qmW (m:=d.Am.length) (by omega)]
  simp only [ja]
  refine Ev.bind hL3 (Ev.bind hL4 (Ev.bind hL5 ?_))
  cases drvB d<;>exact .done
end Go.Fw


namespace Go.Fw
open Go
set_option maxRecDepth 100000
theorem qwo {m k:Nat}:decide ((m:Int)<(k:Int)) = !decide (k≤m):=by rw [jh];simp
theorem qwP {m k:Nat}:decide ((m:Int) > (k:Int)) = !decide (m≤k):=by rw [jh];simp
def treeB (w:qO) (j:Nat):Bool:=bif decide (j=0) then (at0 w.Ak j==-1)&&(at0 w.Bw j==0) else inI (at0 w.Ak j) 0 ((j:Int)-1)
def wireB (w:qO) (s:Int):Bool :=
 lenB w.Ak 1 8&&(((w.Bw.length:Int)==(w.Ak.length:Int))&&(((w.Bt.length:Int)==(w.Ak.length:Int))&&(allN (treeB w) w.Ak.length &&
  ((w.Bw.all fun x=>inI x 0 1000)&&((w.Bt.all fun x=>inI x 0 500)&&(((w.Bl.length:Int)==s)&&(w.Bl.all fun x=>inI x 0 ((w.Ak.length:Int)-1))))))))
theorem quD {w:qO} (hl:w.Ak.length≤1048576) (hr:((w.Bw.length:Int)==(w.Ak.length:Int))=true):Ev (fun n=>qgu n w) (allN (treeB w) w.Ak.length):=by
 rw [beq_iff_eq] at hr
 have hL:Ev (fun n=>qa0 w n 0) (bif allN (treeB w) w.Ak.length then .nxt (w.Ak.length:Int) else .ret false):=by
  refine qd1 ?_ (fun j hj X hX=>Ev.succ ?_)
  ·exact Ev.succ (by simp only [qa0,qk (jb _),cond_false];exact .done)
  ·simp only [qa0,qj hj,cond_true,qae hj,ja,qc0,wS j,bne,qcP]
   unfold treeB
   by_cases h0:j=0
   ·subst h0
    rw [show idx w.Bw (0:Int)=some (at0 w.Bw 0) from qae (j:=0) (by omega)]
    simp only [ja]
    refine Ev.tt (by simp) (Ev.okP fun _=>Ev.okP1 fun _=>Ev.ff (by simp) hX)
   ·have e1:decide (j=0)=false:=by simp;omega
    have e2:((j:Int)==0)=false:=by simp;omega
    have e3:decide ((j:Int) > 0)=true:=by simp;omega
    rw [e1,e2,e3,qeq (show j≤9223372036854775807 by omega)]
    simp only [cond_false,cond_true]
    exact Ev.okP1 fun _=>hX
 unfold qgu
 refine Ev.bind hL ?_
 cases allN (treeB w) w.Ak.length<;>exact .done
theorem que {w:qO} {s:Int} (h:qnP w):Ev (fun n=>qks n w s) (wireB w s):=by
 have hl:=h.Ak.len
 simp only [qks,qbg,ja,qc0,qeq (show w.Ak.length≤9223372036854775807 by omega)]
 unfold wireB
 rw [show inI (w.Ak.length:Int) 1 8=lenB w.Ak 1 8 from qrU (lo:=1) (hi:=8)]
 exact Ev.andP fun _=>Ev.andP fun hr=>Ev.andP fun _=>Ev.and (quD hl hr) fun _=>Ev.and (qeF h.Bw.len) fun _=>Ev.and (qeF h.Bt.len) fun _=>Ev.andP fun _=>Ev.last (qeF h.Bl.len)
theorem qtg {w:qO} {s:Int} (h:qnP w):Ev (fun n=>qkq n w s) (wireB w s):=by
 have hl:=h.Ak.len
 have hsl:=h.Bl.len
 have e:wireB w s=((decide (1≤w.Ak.length)&&(decide (w.Ak.length≤8)&&(((w.Bw.length:Int)==(w.Ak.length:Int))&&(((w.Bt.length:Int)==(w.Ak.length:Int))&&((w.Bl.length:Int)==s)))))&&(allN (fun j=>(inI (at0 w.Bt j) 0 500&&inI (at0 w.Bw j) 0 1000)&&treeB w j) w.Ak.length&&(w.Bl.all fun x=>inI x 0 ((w.Ak.length:Int)-1)))):=by
  unfold wireB lenB
  cases h1:((w.Bw.length:Int)==(w.Ak.length:Int))
  ·simp
  ·cases h2:((w.Bt.length:Int)==(w.Ak.length:Int))
   ·simp
   ·rw [beq_iff_eq] at h1 h2
    rw [qli,qli]
    rw [qge (p:=fun x=>inI x 0 1000) (d:=0),qge (p:=fun x=>inI x 0 500) (d:=0),show w.Bw.length=w.Ak.length by omega,show w.Bt.length=w.Ak.length by omega]
    show _=(_&&((allN (fun j=>inI (w.Bt.getD j 0) 0 500) _&&allN (fun j=>inI (w.Bw.getD j 0) 0 1000) _&&_)&&_))
    generalize allN (fun j=>inI (w.Bt.getD j 0) 0 500) w.Ak.length=a1
    generalize allN (fun j=>inI (w.Bw.getD j 0) 0 1000) w.Ak.length=a2
    generalize allN (fun j=>treeB w j) w.Ak.length=a3
    generalize ((w.Bl.length:Int)==s)=a4
    generalize decide (1≤w.Ak.length)=a5
    generalize decide (w.Ak.length≤8)=a6
    generalize (w.Bl.all fun x=>inI x 0 ((w.Ak.length:Int)-1))=a7
    cases a1<;>cases a2<;>cases a3<;>cases a4<;>cases a5<;>cases a6<;>rfl
 rw [e]
 unfold qkq
 refine Ev.guardB ?_ fun hb=>?_
 ·rw [show decide ((w.Ak.length:Int)<1) = !decide (1≤w.Ak.length) from qwo (k:=1),show decide ((w.Ak.length:Int) > 8) = !decide (w.Ak.length≤8) from qwP (k:=8)]
  simp only [bne,qcP]
  exact Ev.orBP fun _=>Ev.orBP fun _=>Ev.orBP fun _=>Ev.orBP fun _=>.done
 ·simp only [jc,beq_iff_eq] at hb
  have hL1:Ev (fun n=>qct w n 0) (bif allN (fun j=>(inI (at0 w.Bt j) 0 500&&inI (at0 w.Bw j) 0 1000)&&treeB w j) w.Ak.length then .nxt (w.Ak.length:Int) else .ret false):=by
   refine qd1 ?_ (fun j hj X hX=>Ev.succ ?_)
   ·exact Ev.succ (by simp only [qct,qk (jb _),cond_false];exact .done)
   ·simp only [qct,qj hj,cond_true,qae hj,qae (show j<w.Bt.length by omega),qae (show j<w.Bw.length by omega),ja,qcp,wS j,bne,qcP]
    refine Ev.chkT (Ev.orBP fun _=>.done) fun _=>?_
    unfold treeB
    by_cases h0:j=0
    ·subst h0
     refine Ev.tt (by simp) (Ev.okP fun _=>Ev.okP1 fun _=>Ev.ff (by simp) hX)
    ·have e1:decide (j=0)=false:=by simp;omega
     have e2:((j:Int)==0)=false:=by simp;omega
     have e3:decide ((j:Int) > 0)=true:=by simp;omega
     rw [e1,e2,e3,qeq (show j≤9223372036854775807 by omega)]
     simp only [cond_false,cond_true]
     exact Ev.okP1 fun _=>hX
  have hL2:Ev (fun n=>qfd w n 0) (bif (w.Bl.all fun x=>inI x 0 ((w.Ak.length:Int)-1)) then .nxt (w.Bl.length:Int) else .ret false) :=
   qnO (fun n=>by simp only [qfd,qk (jb _),cond_false]) (fun j hj X hX=>by
    simp only [qfd,qj hj,cond_true,qhF hj,ja,qcp,qeq (show w.Ak.length≤9223372036854775807 by omega),wS j,qcP]
    exact Ev.okP1 fun _=>hX)
  refine Ev.bind hL1 ?_
  cases allN (fun j=>(inI (at0 w.Bt j) 0 500&&inI (at0 w.Bw j) 0 1000)&&treeB w j) w.Ak.length
  ·exact .done
  ·refine Ev.bind hL2 ?_
   cases (w.Bl.all fun x=>inI x 0 ((w.Ak.length:Int)-1))<;>exact .done
instance:Inhabited Tplace:=⟨⟨0,0,0,false⟩⟩
instance:Inhabited Tl05Place:=⟨⟨0,0,0,false⟩⟩
def toSp (p:Tplace):Tl05Place:=⟨p.instance_,p.pin,p.net,p.drives⟩
def plX (i:Nat) (x:qn) (j:Nat):List Tplace:=(List.range j).map fun (k:Nat)=>⟨(i:Int),(k:Int),at0 x.Am k,decide (k+1=x.Am.length)⟩
def plI (d:qd) (j:Nat):List Tplace:=(List.range j).flatMap fun (i:Nat)=>plX i (gt d.Aa i) (gt d.Aa i).Am.length
def plP (d:qd) (j:Nat):List Tplace:=(List.range j).map fun (i:Nat)=>⟨-1,(i:Int),(gt d.Aj i).Bx,(gt d.Aj i).Bv==1⟩
def places (d:qd):List Tplace:=plI d d.Aa.length++plP d d.Aj.length
theorem qst {i:Nat} {x:qn} {j:Nat}:plX i x (j+1)=plX i x j++[⟨(i:Int),(j:Int),at0 x.Am j,decide (j+1=x.Am.length)⟩]:=by
 unfold plX;rw [List.range_succ,jO];rfl
theorem qmE {d:qd} {j:Nat}:plI d (j+1)=plI d j++plX j (gt d.Aa j) (gt d.Aa j).Am.length:=by
 unfold plI;rw [List.range_succ,List.flatMap_append];simp
theorem qsj {d:qd} {j:Nat}:plP d (j+1)=plP d j++[⟨-1,(j:Int),(gt d.Aj j).Bx,(gt d.Aj j).Bv==1⟩]:=by
 unfold plP;rw [List.range_succ,jO];rfl
theorem qpD {i:Nat} {x:qn} {j:Nat}:(plX i x j).length=j:=by simp [plX]
theorem qpA {d:qd} {j:Nat}:(plP d j).length=j:=by simp [plP]
structure smallD (d:qd):Prop where
 ni:d.Aa.length≤14
 nn:d.Am.length≤30
 np:d.Aj.length≤8
 nx:∀ i,i<d.Aa.length→2≤(gt d.Aa i).Am.length∧(gt d.Aa i).Am.length≤5
theorem qai {l:qp} {d:qd} (h:designB l d=true):smallD d:=by
 unfold designB hasNamesB libB at h
 simp only [jc,decide_eq_true_eq] at h
 obtain ⟨⟨⟨hc,_⟩,⟨h1,h2,h3⟩,_⟩,hI,_⟩:=h
 refine ⟨h1,h2,h3,fun i hi=>?_⟩
 rw [qhT,qah] at hI hc
 have:=hI i hi
 unfold instB at this
 simp only [jc,qa1,beq_iff_eq] at this
 have h5:=qgi (qiq (hc (gt d.Aa i).Bs.toNat (by omega)))
 omega
theorem qnR {d:qd} (h:smallD d) {j:Nat} (hj:j≤d.Aa.length):(plI d j).length≤5*j:=by
 induction j with
 | zero=>exact jb _
 | succ j ih =>
  rw [qmE,je,qpD]
  have:=ih (by omega)
  have:=h.nx j (by omega)
  omega
theorem qbI {d:qd} (h:smallD d):(places d).length≤78:=by
 unfold places
 rw [je,qpA]
 have:=qnR h (jb _)
 have:=h.ni
 have:=h.np
 omega
theorem qmJ {d:qd} (h:smallD d):Ev (fun n=>qb9 n d) (places d):=by
 have h1:=h.ni
 have h2:=h.np
 have hL2:∀ i,i<d.Aa.length→∀ pre:List Tplace,pre.length≤100→Ev (fun n=>qbu (i:Int) (gt d.Aa i) n pre 0) (pre++plX i (gt d.Aa i) (gt d.Aa i).Am.length,((gt d.Aa i).Am.length:Int)):=by
  intro i hi pre hp
  have h5:=h.nx i hi
  have:=loopF (Lf:=qbu (i:Int) (gt d.Aa i)) (S:=fun j=>pre++plX i (gt d.Aa i) j) (len:=(gt d.Aa i).Am.length) (fin:=(pre++plX i (gt d.Aa i) (gt d.Aa i).Am.length,((gt d.Aa i).Am.length:Int))) (fun n=>by
    simp only [qbu,qk (jb _),cond_false])
   (fun j hj X hX=>by
    have hc:(pre++plX i (gt d.Aa i) j).length+[(⟨(i:Int),(j:Int),at0 (gt d.Aa i).Am j,decide (j+1=(gt d.Aa i).Am.length)⟩:Tplace)].length≤2147483648:=by
     rw [je,qpD];simp;omega
    simp only [qbu,qj hj,cond_true,qae hj,ja,lastE hj (show (gt d.Aa i).Am.length≤1048576 by omega),qcO hc,jm,←qst,wS j]
    exact hX)
  simpa [plX] using this
 have hL1:Ev (fun n=>qbz d n ([]:List Tplace) 0) (plI d d.Aa.length,(d.Aa.length:Int)):=by
  refine loopF (Lf:=qbz d) (S:=fun j=>plI d j) (len:=d.Aa.length) (fun n=>?_) (fun j hj X hX=>?_)
  ·simp only [qbz,qk (jb _),cond_false]
  ·simp only [qbz,qj hj,cond_true,qB hj,ja,wS j]
   refine Ev.bind (hL2 j hj _ (by have:=qnR h (Nat.le_of_lt hj);omega)) ?_
   rw [←qmE]
   exact hX
 have hL3:Ev (fun n=>qbx d n (plI d d.Aa.length) 0) (places d,(d.Aj.length:Int)):=by
  have:=loopF (Lf:=qbx d) (S:=fun j=>plI d d.Aa.length++plP d j) (len:=d.Aj.length) (fin:=(places d,(d.Aj.length:Int))) (fun n=>by
    simp only [qbx,qk (jb _),cond_false];rfl)
   (fun j hj X hX=>by
    have hc:(plI d d.Aa.length++plP d j).length+[(⟨-1,(j:Int),(gt d.Aj j).Bx,(gt d.Aj j).Bv==1⟩:Tplace)].length≤2147483648:=by
     rw [je,qpA];have:=qnR h (jb _);simp;omega
    simp only [qbx,qj hj,cond_true,qB hj,ja,qcO hc,jm,←qsj,wS j]
    exact hX)
  simpa [plP] using this
 unfold qb9
 exact Ev.bind hL1 (Ev.bind hL3 .done)
theorem qhl {d:qd} (h:smallD d):Ev (fun n=>qb4 n d) ((places d).map toSp):=by
 have h1:=h.ni
 have h2:=h.np
 have hL2:∀ i,i<d.Aa.length→∀ pre:List Tplace,pre.length≤100→Ev (fun n=>qcw (i:Int) (gt d.Aa i) n (pre.map toSp) 0) ((pre++plX i (gt d.Aa i) (gt d.Aa i).Am.length).map toSp,((gt d.Aa i).Am.length:Int)):=by
  intro i hi pre hp
  have h5:=h.nx i hi
  have:=loopF (Lf:=qcw (i:Int) (gt d.Aa i)) (S:=fun j=>(pre++plX i (gt d.Aa i) j).map toSp) (len:=(gt d.Aa i).Am.length) (fin:=((pre++plX i (gt d.Aa i) (gt d.Aa i).Am.length).map toSp,((gt d.Aa i).Am.length:Int))) (fun n=>by
    simp only [qcw,qk (jb _),cond_false])
   (fun j hj X hX=>by
    have hc:((pre++plX i (gt d.Aa i) j).map toSp).length+[(⟨(i:Int),(j:Int),at0 (gt d.Aa i).Am j,decide (j+1=(gt d.Aa i).Am.length)⟩:Tl05Place)].length≤2147483648:=by
     rw [jv,je,qpD];simp;omega
    simp only [qcw,qj hj,cond_true,qae hj,ja,lastE hj (show (gt d.Aa i).Am.length≤1048576 by omega),qcO hc,wS j]
    rw [qst,←jm,jO] at hX
    exact hX)
  simpa [plX] using this
 have hL1:Ev (fun n=>qcl d n ([]:List Tl05Place) 0) ((plI d d.Aa.length).map toSp,(d.Aa.length:Int)):=by
  refine loopF (Lf:=qcl d) (S:=fun j=>(plI d j).map toSp) (len:=d.Aa.length) (fun n=>?_) (fun j hj X hX=>?_)
  ·simp only [qcl,qk (jb _),cond_false]
  ·simp only [qcl,qj hj,cond_true,qB hj,ja,wS j]
   refine Ev.bind (hL2 j hj _ (by have:=qnR h (Nat.le_of_lt hj);omega)) ?_
   rw [←qmE]
   exact hX
 have hL3:Ev (fun n=>qcs d n ((plI d d.Aa.length).map toSp) 0) ((places d).map toSp,(d.Aj.length:Int)):=by
  have:=loopF (Lf:=qcs d) (S:=fun j=>(plI d d.Aa.length++plP d j).map toSp) (len:=d.Aj.length) (fin:=((places d).map toSp,(d.Aj.length:Int))) (fun n=>by
    simp only [qcs,qk (jb _),cond_false];rfl)
   (fun j hj X hX=>by
    have hc:((plI d d.Aa.length++plP d j).map toSp).length+[(⟨-1,(j:Int),(gt d.Aj j).Bx,(gt d.Aj j).Bv==1⟩:Tl05Place)].length≤2147483648:=by
     rw [jv,je,qpA];have:=qnR h (jb _);simp;omega
    simp only [qcs,qj hj,cond_true,qB hj,ja,qcO hc,wS j]
    rw [qsj,←jm,jO] at hX
    exact hX)
  simpa [plP] using this
 unfold qb4
 exact Ev.bind hL1 (Ev.bind hL3 .done)
def snkQ (d:qd) (k:Int) (i:Nat):Bool:=((gt (places d) i).net==k)&&!(gt (places d) i).drives
def sinksL (d:qd) (k:Int) (j:Nat):List Int:=((List.range j).filter (snkQ d k)).map fun (i:Nat)=>(i:Int)
def snkN (d:qd) (k:Int):Nat:=cntP (snkQ d k) (places d).length
theorem qi0 {d:qd} {k:Int} {j:Nat}:sinksL d k (j+1)=sinksL d k j++(bif snkQ d k j then [(j:Int)] else []):=by
 unfold sinksL
 rw [List.range_succ,List.filter_append,jO]
 congr 1
 cases h:snkQ d k j<;>simp [h]
theorem qix {d:qd} {k:Int} {j:Nat}:(sinksL d k j).length=cntP (snkQ d k) j:=by
 induction j with
 | zero=>rfl
 | succ j ih =>
  rw [qi0,je,ih]
  show _=cntP (snkQ d k) j+_
  congr 1
  cases snkQ d k j<;>rfl
theorem qoz {α β:Type} [Inhabited α] [Inhabited β] {xs:List α} {g:α→β} {j:Nat} (h:j<xs.length):gt (xs.map g) j=g (gt xs j):=by
 rw [qeT (by simpa using h),qeT h];simp
theorem qmu {d:qd} {k:Int} (h:smallD d):Ev (fun n=>qfO n d k) (sinksL d k (places d).length):=by
 have hl:=qbI h
 have hL:Ev (fun n=>qcf k ((places d).map toSp) n ([]:List Int) 0) (sinksL d k (places d).length,((places d).length:Int)):=by
  refine loopF (Lf:=qcf k ((places d).map toSp)) (S:=fun j=>sinksL d k j) (len:=(places d).length) (fun n=>?_) (fun j hj X hX=>?_)
  ·simp only [qcf,jv,qk (jb _),cond_false]
  ·have hj':j<((places d).map toSp).length:=by simpa using hj
   have hc:(sinksL d k j).length+[(j:Int)].length≤2147483648:=by
    rw [qix]
    have:cntP (snkQ d k) j≤j:=qfw
    simp;omega
   simp only [qcf,qj hj',cond_true,qB hj',qoz hj,ja,wS j]
   rw [show ∀ p:Tplace,(toSp p).net=p.net from fun _=>rfl,show ∀ p:Tplace,(toSp p).drives=p.drives from fun _=>rfl]
   refine Ev.bind (b:=snkQ d k j) (Ev.andP fun _=>.done) ?_
   rw [qi0] at hX
   cases hq:snkQ d k j
   ·rw [hq] at hX
    simp only [cond_false,List.append_nil] at hX ⊢
    exact hX
   ·rw [hq] at hX
    simp only [cond_true,qcO hc,ja] at hX ⊢
    exact hX
 unfold qfO
 exact Ev.bind (qhl h) (Ev.bind hL .done)
theorem qlz {l:qp} {d:qd} (h:designB l d=true) {i:Nat} (hi:i<(places d).length):0≤(gt (places d) i).net∧(gt (places d) i).net<d.Am.length:=by
 unfold designB at h
 simp only [jc] at h
 obtain ⟨_,hI,hP,_⟩:=h
 rw [qhT,qah] at hI hP
 have hm:gt (places d) i ∈ places d:=by rw [qeT hi];exact jp hi
 generalize gt (places d) i=p at hm
 unfold places at hm
 rcases List.mem_append.1 hm with hm|hm
 ·unfold plI at hm
  obtain ⟨i,hi,hm⟩:=List.mem_flatMap.1 hm
  unfold plX at hm
  obtain ⟨k,hk,rfl⟩:=List.mem_map.1 hm
  have:=hI i (List.mem_range.1 hi)
  unfold instB at this
  simp only [jc] at this
  have h3:=this.2.2
  rw [qge (d:=0),qah] at h3
  have h4:=h3 k (List.mem_range.1 hk)
  unfold netB at h4
  rw [qa1] at h4
  show 0≤at0 _ _∧at0 _ _<_
  unfold at0
  omega
 ·unfold plP at hm
  obtain ⟨i,hi,rfl⟩:=List.mem_map.1 hm
  have:=hP i (List.mem_range.1 hi)
  unfold portB netB at this
  simp only [jc,qa1] at this
  show 0≤(gt d.Aj i).Bx∧(gt d.Aj i).Bx<_
  omega
def blockB (b:qf):Bool:=(designB b.Av b.Ab&&((b.Ac.length:Int)==(b.Ab.Am.length:Int)))&&allN (fun j=>wireB (gt b.Ac j) (snkN b.Ab (j:Int))) b.Ac.length
theorem qs4 {b:qf} (h:qll b):Ev (fun n=>qhI n b) (blockB b):=by
 have hwl:=h.Ac.len
 unfold qhI blockB
 refine Ev.guardB (Ev.or (qsV h.Av h.Ab) fun _=>.done) fun hb=>?_
 rw [jc,beq_iff_eq] at hb
 obtain ⟨hd,hw⟩:=hb
 have hs:=qai hd
 have hl:=qbI hs
 have hn:=hs.nn
 rw [qmW (m:=b.Ac.length) (by omega)]
 simp only [ja]
 have hL1:Ev (fun n=>qcK (places b.Ab) n (vecC (fun _=>0) b.Ac.length) 0) (vecC (fun k=>snkN b.Ab (k:Int)) b.Ac.length,((places b.Ab).length:Int)):=by
  refine loopF (Lf:=qcK (places b.Ab)) (S:=fun j=>vecC (fun k=>cntP (snkQ b.Ab (k:Int)) j) b.Ac.length) (len:=(places b.Ab).length) (fun n=>?_) (fun j hj X hX=>?_)
  ·simp only [qcK,qk (jb _),cond_false];rfl
  ·simp only [qcK,qj hj,cond_true,qB hj,ja,wS j]
   obtain ⟨n0,n1⟩:=qlz hd hj
   cases h1:(gt (places b.Ab) j).drives
   ·have hc:cntP (snkQ b.Ab (((gt (places b.Ab) j).net.toNat:Nat):Int)) j≤j:=qfw
    obtain ⟨e1,e2⟩:=qkY (c:=fun k=>cntP (snkQ b.Ab (k:Int)) j) (c':=fun k=>cntP (snkQ b.Ab (k:Int)) (j+1)) (x:=(gt (places b.Ab) j).net) (m:=b.Ac.length) n0 (by omega) (by show cntP _ _<_;omega) (fun k _=>by
     show cntP _ j+(bif snkQ b.Ab (k:Int) j then 1 else 0)=_
     unfold snkQ
     rw [h1,Bool.not_false,Bool.and_true])
    simp only [Bool.not_false,cond_true,ja,e1,e2]
    exact hX
   ·have:vecC (fun k=>cntP (snkQ b.Ab (k:Int)) (j+1)) b.Ac.length=vecC (fun k=>cntP (snkQ b.Ab (k:Int)) j) b.Ac.length:=by
     refine qkc (fun k _=>?_)
     show cntP _ j+(bif snkQ b.Ab (k:Int) j then 1 else 0)=_
     unfold snkQ
     rw [h1,jW,Bool.and_false];rfl
    rw [this] at hX
    exact hX
 have hL2:Ev (fun n=>qem b (vecC (fun k=>snkN b.Ab (k:Int)) b.Ac.length) n 0) (bif allN (fun j=>wireB (gt b.Ac j) (snkN b.Ab (j:Int))) b.Ac.length then .nxt (b.Ac.length:Int) else .ret false):=by
  refine qd1 ?_ (fun j hj X hX=>Ev.succ ?_)
  ·exact Ev.succ (by simp only [qem,qk (jb _),cond_false];exact .done)
  ·simp only [qem,qj hj,cond_true,qB hj,qka hj,ja,wS j]
   exact Ev.chk1 (que (ql6 h.Ac hj)) fun _=>hX
 refine Ev.bind (qmJ hs) (Ev.bind hL1 (Ev.bind hL2 ?_))
 cases allN (fun j=>wireB (gt b.Ac j) (snkN b.Ab (j:Int))) b.Ac.length<;>exact .done
theorem qoO {b:qf} (h:qll b):Ev (fun n=>qgE n b) (blockB b):=by
 have hwl:=h.Ac.len
 unfold qgE blockB
 refine Ev.guardB (Ev.or (qry h.Av h.Ab) fun _=>.done) fun hb=>?_
 rw [jc] at hb
 have hs:=qai hb.1
 have hL:Ev (fun n=>qeg b n 0) (bif allN (fun j=>wireB (gt b.Ac j) (snkN b.Ab (j:Int))) b.Ac.length then .nxt (b.Ac.length:Int) else .ret false):=by
  refine qd1 ?_ (fun j hj X hX=>Ev.succ ?_)
  ·exact Ev.succ (by simp only [qeg,qk (jb _),cond_false];exact .done)
  ·simp only [qeg,qj hj,cond_true,qB hj,ja,wS j]
   refine Ev.bind (qmu hs) ?_
   rw [qix]
   exact Ev.chk1 (qtg (ql6 h.Ac hj)) fun _=>hX
 refine Ev.bind hL ?_
 cases allN (fun j=>wireB (gt b.Ac j) (snkN b.Ab (j:Int))) b.Ac.length<;>exact .done
end Go.Fw


namespace Go.Fw
open Go
set_option maxRecDepth 100000
def off (d:qd) (i:Nat):Nat:=(plI d i).length
def place1 (d:qd) (i k:Nat):Tplace:=⟨(i:Int),(k:Int),at0 (gt d.Aa i).Am k,decide (k+1=(gt d.Aa i).Am.length)⟩
def place2 (d:qd) (i:Nat):Tplace:=⟨-1,(i:Int),(gt d.Aj i).Bx,(gt d.Aj i).Bv==1⟩
theorem qj0 {d:qd} {i:Nat}:off d (i+1)=off d i+(gt d.Aa i).Am.length:=by
 unfold off;rw [qmE,je,qpD]
theorem qtJ {d:qd} {i j:Nat} (h:i≤j):off d i≤off d j:=by
 induction j with
 | zero =>
  obtain rfl:i=0:=by omega
  exact jb _
 | succ j ih =>
  rcases Nat.lt_or_eq_of_le h with h|rfl
  ·rw [qj0];have:=ih (by omega);omega
  ·exact jb _
theorem qgn {d:qd}:(places d).length=off d d.Aa.length+d.Aj.length:=by
 unfold places off;rw [je,qpA]
theorem qxV {d:qd} {n i k:Nat} (hi:i<n) (hk:k<(gt d.Aa i).Am.length):off d i+k<off d n∧gt (plI d n) (off d i+k)=place1 d i k:=by
 induction n with
 | zero=>omega
 | succ n ih =>
  rw [qmE,qkZ]
  rcases Nat.lt_succ_iff_lt_or_eq.1 hi with h|rfl
  ·obtain ⟨h1,h2⟩:=ih h
   refine ⟨by rw [qj0];omega,?_⟩
   rw [if_pos (show off d i+k<(plI d n).length from h1),h2]
  ·refine ⟨by rw [qj0];omega,?_⟩
   rw [if_neg (by unfold off;omega),show off d i+k-(plI d i).length=k by unfold off;omega]
   exact qpY hk
theorem qjI {d:qd} {i k:Nat} (hi:i<d.Aa.length) (hk:k<(gt d.Aa i).Am.length):off d i+k<(places d).length∧gt (places d) (off d i+k)=place1 d i k:=by
 obtain ⟨h1,h2⟩:=qxV hi hk
 refine ⟨by rw [qgn];omega,?_⟩
 unfold places
 rw [qkZ,if_pos (show off d i+k<(plI d d.Aa.length).length from h1),h2]
theorem qrh {d:qd} {i:Nat} (hi:i<d.Aj.length):off d d.Aa.length+i<(places d).length∧gt (places d) (off d d.Aa.length+i)=place2 d i:=by
 refine ⟨by rw [qgn];omega,?_⟩
 unfold places
 rw [qkZ,if_neg (by unfold off;omega),show off d d.Aa.length+i-(plI d d.Aa.length).length=i by unfold off;omega]
 exact qpY hi
theorem qus {d:qd} {n j:Nat} (hj:j<off d n):∃ i k,i<n∧k<(gt d.Aa i).Am.length∧j=off d i+k:=by
 induction n with
 | zero=>exact absurd hj (Nat.not_lt_zero _)
 | succ n ih =>
  by_cases h:j<off d n
  ·obtain ⟨i,k,h1,h2,h3⟩:=ih h
   exact ⟨i,k,by omega,h2,h3⟩
  ·rw [qj0] at hj
   exact ⟨n,j-off d n,by omega,by omega,by omega⟩
theorem qkv {d:qd} {j:Nat} (hj:j<(places d).length) :
  (∃ i k,i<d.Aa.length∧k<(gt d.Aa i).Am.length∧j=off d i+k∧gt (places d) j=place1 d i k) ∨
  (∃ i,i<d.Aj.length∧j=off d d.Aa.length+i∧gt (places d) j=place2 d i):=by
 rw [qgn] at hj
 by_cases h:j<off d d.Aa.length
 ·obtain ⟨i,k,h1,h2,rfl⟩:=qus h
  exact .inl ⟨i,k,h1,h2,rfl,(qjI h1 h2).2⟩
 ·refine .inr ⟨j-off d d.Aa.length,by omega,by omega,?_⟩
  have:=(qrh (d:=d) (i:=j-off d d.Aa.length) (by omega)).2
  rwa [show off d d.Aa.length+(j-off d d.Aa.length)=j by omega] at this
def drvQ (d:qd) (k:Int) (j:Nat):Bool:=((gt (places d) j).net==k)&&(gt (places d) j).drives
theorem qsH {q:Nat→Bool} {m n:Nat}:cntP q (m+n)=cntP q m+cntP (fun j=>q (m+j)) n:=by
 induction n with
 | zero=>rfl
 | succ n ih =>
  show cntP q (m+n)+(bif q (m+n) then 1 else 0)=cntP q m+(cntP (fun j=>q (m+j)) n+(bif q (m+n) then 1 else 0))
  rw [ih];omega
theorem quz {q:Nat→Bool} {n:Nat} {b:Bool} (h:1≤n) (h1:∀ j,j+1<n→q j=false) (h2:q (n-1)=b):cntP q n=bif b then 1 else 0:=by
 obtain ⟨m,rfl⟩:∃ m,n=m+1:=⟨n-1,by omega⟩
 show cntP q m+(bif q m then 1 else 0)=_
 rw [qmL.2 (fun j hj=>h1 j (by omega)),show m=m+1-1 by omega,h2,jU]
theorem qtv {d:qd} {k:Nat} (hs:smallD d):cntP (drvQ d (k:Int)) (places d).length=drvI d k d.Aa.length+drvP d k d.Aj.length:=by
 rw [qgn,qsH]
 congr 1
 ·have:∀ n,n≤d.Aa.length→cntP (drvQ d (k:Int)) (off d n)=drvI d k n:=by
   intro n
   induction n with
   | zero=>intro _;rfl
   | succ n ih =>
    intro hn
    rw [qj0,qsH,ih (by omega),qoo]
    congr 1
    have h2:=(hs.nx n (by omega)).1
    refine quz (by omega) (fun j hj=>?_) ?_
    ·show drvQ d _ (off d n+j)=false
     unfold drvQ
     rw [(qjI (by omega) (by omega)).2]
     unfold place1
     simp;omega
    ·show drvQ d _ (off d n+_)=_
     unfold drvQ
     rw [(qjI (by omega) (by omega)).2]
     unfold place1 lastN
     simp;omega
  exact this _ (jb _)
 ·refine qpP (fun j hj=>?_)
  show drvQ d _ (off d _+j)=_
  unfold drvQ
  rw [(qrh hj).2]
  unfold place2
  exact Bool.and_comm _ _
theorem qtX {l:qp} {d:qd} (h:designB l d=true) {k:Nat} (hk:k<d.Am.length):cntP (drvQ d (k:Int)) (places d).length=1:=by
 rw [qtv (qai h)]
 unfold designB drvB at h
 simp only [jc] at h
 have:=qah.1 h.2.2.2 k hk
 rw [beq_iff_eq] at this
 omega
theorem qsa {l:qp} {d:qd} (h:designB l d=true) {i j:Nat} (hi:i<(places d).length) (hj:j<(places d).length) (he:(gt (places d) i).net=(gt (places d) j).net) (h1:(gt (places d) i).drives=true) (h2:(gt (places d) j).drives=true):i=j:=by
 obtain ⟨n0,n1⟩:=qlz h hi
 have e:=qfY n0
 have:=qtX h (k:=(gt (places d) i).net.toNat) (by omega)
 refine qsp (Nat.le_of_eq this) hi hj ?_ ?_
 ·unfold drvQ;rw [←e,h1];simp
 ·unfold drvQ;rw [←e,h2,he];simp
theorem qxt {l:qp} {d:qd} (h:designB l d=true) {k:Int} (h0:0≤k) (h1:k<d.Am.length):∃ j,j<(places d).length∧(gt (places d) j).net=k∧(gt (places d) j).drives=true:=by
 have e:=qfY h0
 have:=qtX h (k:=k.toNat) (by omega)
 have hp:decide (0<cntP (drvQ d ((k.toNat:Nat):Int)) (places d).length)=true:=by rw [this];rfl
 rw [qso,jD,qlv] at hp
 obtain ⟨j,hj,hq⟩:=hp
 rw [Bool.not_eq_false',←e] at hq
 unfold drvQ at hq
 simp only [jc,beq_iff_eq] at hq
 exact ⟨j,hj,hq.1,hq.2⟩
def cellAt (b:qf) (i:Int):qA:=gt b.Av.Aq (gt b.Ab.Aa i.toNat).Bs.toNat
theorem qgy {l:qp} {d:qd} (h:designB l d=true) {i:Nat} (hi:i<d.Aa.length) :
  (0≤(gt d.Aa i).Bs∧(gt d.Aa i).Bs<l.Aq.length)∧(gt d.Aa i).Am.length=(gt l.Aq (gt d.Aa i).Bs.toNat).Bd.length∧cellB (gt l.Aq (gt d.Aa i).Bs.toNat)=true:=by
 unfold designB libB at h
 simp only [jc] at h
 obtain ⟨⟨⟨hc,_⟩,_⟩,hI,_⟩:=h
 rw [qhT,qah] at hI hc
 have:=hI i hi
 unfold instB at this
 simp only [jc,qa1,beq_iff_eq] at this
 exact ⟨⟨this.1.1,by omega⟩,by omega,hc _ (by omega)⟩
theorem qmF {c:qA} (h:cellB c=true) {j:Nat} (hj:j<c.Ar.length):(1≤(gt c.Ar j).Be∧(gt c.Ar j).Be≤5)∧(0≤(gt c.Ar j).Bk∧(gt c.Ar j).Bk<(c.Bd.length:Int)-1)∧(0≤(gt c.Ar j).To∧(gt c.Ar j).To≤(c.Bd.length:Int)-1)∧arcS c.Bd (gt c.Ar j)=true:=by
 unfold cellB at h
 simp only [jc] at h
 obtain ⟨_,hp,⟨ha,_⟩,_,_,hk⟩:=h
 have:=qah.1 ha j hj
 rw [jc,qu9 hp (qq2 hk)] at this
 have h1:=this.1
 refine ⟨qrd h1,?_⟩
 have h2:=h1
 unfold arcS at h2
 simp only [jc,qa1] at h2
 refine ⟨⟨h2.1.1.1,by omega⟩,h2.1.2,h1⟩
theorem qnn {c:qA} (h:cellB c=true):c.Ar.length≤8:=by
 unfold cellB at h
 simp only [jc,decide_eq_true_eq] at h
 exact h.2.2.1.2
theorem qaE {b:qf} (h:blockB b=true):designB b.Av b.Ab=true:=by
 unfold blockB at h;simp only [jc] at h;exact h.1.1
end Go.Fw
