/- By a program of mine (gen.py): for each function a plain function and the proof that the code computes it. -/
import Derived.Test.YtopijfgpbojkoaaGreatDoorA2
import Derived.Test.YtopijfgpbojkoaaGreatDoorFw33
open Option renaming bind_some → ja
open Nat renaming le_refl → jb, mul_le_mul_right → jj, le_of_ble_eq_true → jq, lt_of_lt_of_le → jt, succ_mul → jF, zero_add → jV
open Bool renaming and_eq_true → jc, eq_iff_iff → jh, true_and → jw, not_eq_true' → jE, not_true → jX
open Go.Result renaming andThen_ok → jd
open List renaming length_append → je, getElem?_eq_getElem → jf, length_singleton → jk, append_assoc → jm, mem_cons_of_mem → jn, getElem_mem → jo, getElem?_append_left → jr, take_succ_eq_append_getElem → js, mem_cons_self → ju, length_map → jv, getElem?_take → jx, getElem?_append_right → jy, getD_eq_getElem?_getD → jz, getElem?_toArray → jA, take_length → jB, length_replicate → jC, eq_nil_of_length_eq_zero → jD, not_mem_nil → jG, size_toArray → jH, drop_eq_getElem_cons → jL, getElem_of_mem → jM, map_append → jN, mem_append_left → jO, mem_cons → jQ, all_eq_true → jS, length_take → jT, ext_getElem → jU
open Go.Sem renaming run_bind → jg, run_pure → ji
open Int renaming toNat_natCast → jp, tdiv_eq_ediv_of_nonneg → jJ, mul_nonneg → jK, mul_assoc → jP, mul_le_mul → jR, le_refl → jW
open Array renaming getElem?_append_left → jI

namespace Go.Fw
open Go Go.Proofs
open Go.RowKit (Below)
set_option maxRecDepth 100000
set_option maxHeartbeats 1600000
variable {n:Nat} {w:World} {cs1 cs2 cs3 cs4 cs5 cs6 cs7 cs8 cs9:List Value}
def qc8 (a_0:qB) (i1:Int) (y1:qP):Nat→Int→Option (Flow Bool Int)
 | 0,_=>none
 | n+1,i2 =>
  bif decide (i2<i1) then
   (idx a_0.Ar i2).bind fun y2 =>
   bif (y2.Be==y1.Be) then
    (idx a_0.Ar i2).bind fun y3 =>
    bif (y3.Bk==y1.Bk) then
     (idx a_0.Ar i2).bind fun y4 =>
     bif (y4.To==y1.To) then some (.ret false) else
     qc8 a_0 i1 y1 n (W64 (i2+1))
    else
     qc8 a_0 i1 y1 n (W64 (i2+1))
   else
    qc8 a_0 i1 y1 n (W64 (i2+1))
  else
   some (.nxt i2)
def qe7 (a_0:qB):Nat→Int→Option (Flow Bool Int)
 | 0,_=>none
 | n+1,i3 =>
  bif decide (i3<(a_0.Br.length:Int)) then
   (idx a_0.Br i3).bind fun y5 =>
   (qai n y5 0 1).bind fun r6 =>
   bif (!r6) then some (.ret false) else
   qe7 a_0 n (W64 (i3+1))
  else
   some (.nxt i3)
def qeZ (a_0:qB):Nat→Int→Option (Flow Bool Int)
 | 0,_=>none
 | n+1,i1 =>
  bif decide (i1<(a_0.Ar.length:Int)) then
   (idx a_0.Ar i1).bind fun y1 =>
   (qkB n a_0 y1).bind fun r4 =>
   bif (!r4) then some (.ret false) else
   (qc8 a_0 i1 y1 n 0).bind fun o=>match o with
   | .ret r=>some (.ret r)
   | .nxt _ =>
    qeZ a_0 n (W64 (i1+1))
  else
   some (.nxt i1)
def qkz (n:Nat) (a_0:qB):Option Bool :=
 (qjw n a_0).bind fun o=>match o with
  | (r2,r3) =>
   (
    bif (!r3) then some true else
    (qfs n a_0.Ba).bind fun r7 =>
    bif (!r7) then some true else
    bif decide ((a_0.Ar.length:Int) > 8) then some true else
    (qai n a_0.Ca 0 100000).bind fun r8 =>
    bif (!r8) then some true else
    (qai n a_0.Bu 0 100000).bind fun r9 =>
    some (!r9)).bind fun b1 =>
   bif b1 then some false else
   (qeZ a_0 n 0).bind fun o=>match o with
   | .ret r=>some r
   | .nxt _ =>
    (qiG n a_0).bind fun r5 =>
    bif (a_0.Be==1) then
     (qe7 a_0 n 0).bind fun o=>match o with
     | .ret r=>some r
     | .nxt _ =>
      bif (r2==0) then
       (shlS 1 (IntKind.wrap .u64 (W64 ((a_0.Bc.length:Int)-1)))).bind fun y6 =>
       some ((a_0.Br.length:Int)==y6)
      else
       some false
    else
     bif (a_0.Be==2) then
      bif (r2==1) then
       (idx r5 1).bind fun y7 =>
       bif (y7==0) then
        (idx r5 2).bind fun y8 =>
        (idx r5 3).bind fun y9 =>
        bif (!((decide (y8 > 0))==(decide (y9 > 0)))) then some ((a_0.Br.length:Int)==0) else
        some false
       else
        some false
      else
       some false
     else
      bif (a_0.Be==3) then
       bif (r2==1) then
        (idx r5 1).bind fun y10 =>
        bif decide (y10 > 0) then
         (idx r5 2).bind fun y11 =>
         bif decide (y11 > 0) then
          (idx r5 3).bind fun y12 =>
          bif (y12==0) then some ((a_0.Br.length:Int)==0) else
          some false
         else
          some false
        else
         some false
       else
        some false
      else
       some false
theorem qpU {a_0:qB} (ha1:GoT.R w (old w) a_0 cs1) {r:Bool} (hF:qkz n a_0=some r):RetV Tryz.prog 194 [GoT.v qB cs1] w r:=by
 obtain ⟨p1,k1,p2,k2,p3,k3,rfl,s1,s2,s3⟩:=qZ ha1
 refine zV 182 Tryz.func194 rfl fun h=>zSR (qu h rfl rfl fun w1 bb1 h=>X1 5 0 h rfl ?_)
 obtain ⟨r1,hr1,hF⟩:=qc hF
 obtain ⟨r2,r3⟩:=r1
 refine qbh (r2,r3) h (cB 227 rfl) (qpe (h.old ha1) hr1) rfl rfl rfl rfl fun w2 S1 us1 hv1 hr2=>?_
 obtain ⟨S2,us2,rfl,hv2,hr3⟩:=hv1.consI hr2
 obtain ⟨rfl,h⟩:=hv2.lastB hr3
 refine X0 8 rfl ?_
 obtain ⟨KF1,hKF1,o4,hF,hK4⟩:=bindE hF
 refine qba (fun e w'=>∃ (b1:Bool),KF1 b1=some r∧e=[(1,.pointer (some ⟨bb1,0,none⟩)),(3,.int .i64 r2),(40,.bool b1)]∧SH w w' [Ch.box bb1 (qdD a_0 p1 p2 p3 k1 k2 k3) 166]) ?_ ?_
 ·refine X0 4 rfl (qi (t:=17) hF rfl ?_ ?_)<;>intro hF
  ·refine X0 24 rfl ?_
   obtain rfl:=qb hF
   exact rG ⟨_,hK4,rfl,h⟩ rfl
  refine X1 5 0 h rfl (zcB h hF qhf rfl fun r7 w18 h hF=>X0 4 rfl (qi (t:=23) hF rfl ?_ ?_))<;>intro hF
  ·refine X0 18 rfl ?_
   obtain rfl:=qb hF
   exact rG ⟨_,hK4,rfl,h⟩ rfl
  refine X1 10 0 h rfl (qi (t:=29) hF rfl ?_ ?_)<;>intro hF
  ·refine X0 12 rfl ?_
   obtain rfl:=qb hF
   exact rG ⟨_,hK4,rfl,h⟩ rfl
  refine X1 5 0 h rfl (zcB h hF qab rfl fun r8 w19 h hF=>X0 4 rfl (qi (t:=35) hF rfl ?_ ?_))<;>intro hF
  ·refine X0 6 rfl ?_
   obtain rfl:=qb hF
   exact rG ⟨_,hK4,rfl,h⟩ rfl
  refine X1 5 0 h rfl (zcB h hF qab rfl fun r9 w20 h hF=>X0 4 rfl ?_)
  obtain rfl:=qb hF
  exact rG ⟨_,hK4,rfl,h⟩ rfl
 rintro e4 w21 ⟨b1,hF,rfl,h⟩
 subst hKF1
 refine qg rfl hF ?_ ?_<;>intro hF
 ·exact X0 4 rfl (rb h hF rfl)
 refine X0 6 rfl ?_
 obtain ⟨o1,hF,hK1⟩:=qc hF
 refine ql (rL (fun m e w'=>∃ (i1:Int),qeZ a_0 m i1=some o1∧e=[(1,.pointer (some ⟨bb1,0,none⟩)),(3,.int .i64 r2),(5,.int .i64 i1)]∧SH w w' [Ch.box bb1 (qdD a_0 p1 p2 p3 k1 k2 k3) 166]) n ⟨_,hF,rfl,h⟩ rfl ?_)
 rintro m1 e1 w3 ⟨i1,hF,rfl,h⟩
 rcases m1 with _|m1
 ·cases hF
 refine X1 9 0 h rfl (qg rfl hF ?_ ?_)<;>intro hF
 ·refine X1 8 0 h rfl ?_
  obtain ⟨y1,hy1,hF,he1,b2,_,q1,cs2,hp1,hq1,hr5,hc3⟩:=s2.ix hF
  obtain ⟨p4,k4,p5,k5,rfl,s4,s5⟩:=qac hr5
  refine zxe hp1 hq1 he1 rfl (zc 0 (hc3.below h.below) rfl (qm qa h rfl rfl rfl fun w4 bb2 h=>zs 0 h rfl fun w5 h=>X2 6 1 0 h rfl (zcB h hF (qpI (h.old ha1) (qeW y1 (h.oldS s4) (h.oldS s5))) rfl fun r4 w6 h hF=>X0 2 rfl (qg rfl hF ?_ ?_))))<;>intro hF
  ·refine X0 4 rfl ?_
   obtain rfl:=qb hF;replace hF:=hK1
   exact rb h hF rfl
  refine X0 5 rfl ?_
  obtain ⟨o2,hF,hK2⟩:=qc hF
  refine ql (rL (fun m e w'=>∃ (i2:Int),qc8 a_0 i1 y1 m i2=some o2∧e=[(1,.pointer (some ⟨bb1,0,none⟩)),(3,.int .i64 r2),(5,.int .i64 i1),(6,.pointer (some ⟨bb2,0,none⟩)),(7,.int .i64 i2)]∧SH w w' [Ch.box bb2 (qgq y1 p4 p5 k4 k5) 171,Ch.box bb1 (qdD a_0 p1 p2 p3 k1 k2 k3) 166]) m1 ⟨_,hF,rfl,h⟩ rfl ?_)
  rintro m2 e2 w7 ⟨i2,hF,rfl,h⟩
  rcases m2 with _|m2
  ·cases hF
  refine X0 7 rfl (qg rfl hF ?_ ?_)<;>intro hF
  ·refine X0 4 rfl (rD (Y1 2 1 h rfl ?_))
   refine zd1 rfl ?_
   obtain ⟨y2,hy2,hF,he2,b3,_,q2,cs3,hp2,hq2,hr7,hc6⟩:=s2.ix hF
   obtain ⟨p6,k6,p7,k7,rfl,s6,s7⟩:=qac hr7
   refine zdxe hp2 hq2 he2 rfl (zd1 rfl (zdc 0 (hc6.below h.below) rfl (Y1 2 0 h rfl ?_)))
   refine zd2 rfl (qaM (t:=71) hF rfl ?_ ?_)<;>intro hF
   ·refine Y1 4 1 h rfl ?_
    refine Y0 3 rfl ?_
    obtain ⟨y3,hy3,hF,he3,b4,_,q3,cs4,hp3,hq3,hr8,hc7⟩:=s2.ix hF
    obtain ⟨p8,k8,p9,k9,rfl,s8,s9⟩:=qac hr8
    refine zdxe hp3 hq3 he3 rfl (Y0 3 rfl (zdc 1 (hc7.below h.below) rfl (Y1 4 0 h rfl ?_)))
    refine Y0 4 rfl (qaM (t:=82) hF rfl ?_ ?_)<;>intro hF
    ·refine Y1 4 1 h rfl ?_
     refine Y0 3 rfl ?_
     obtain ⟨y4,hy4,hF,he4,b5,_,q4,cs5,hp4,hq4,hr9,hc8⟩:=s2.ix hF
     obtain ⟨p10,k10,p11,k11,rfl,s10,s11⟩:=qac hr9
     refine zdxe hp4 hq4 he4 rfl (Y0 3 rfl (zdc 2 (hc8.below h.below) rfl (Y1 4 0 h rfl ?_)))
     refine Y0 3 rfl (dN h fun w8 h=>qg rfl hF ?_ ?_)<;>intro hF
     ·refine X0 4 rfl ?_
      obtain rfl:=qb hF;replace hF:=hK2
      obtain rfl:=qb hF;replace hF:=hK1
      exact rb h hF rfl
     exact X0 7 rfl (rK ⟨_,hF,rfl,h⟩ rfl)
    exact Y0 10 rfl (dN h fun w9 h=>qci rfl rfl (X0 7 rfl (rK ⟨_,hF,rfl,h⟩ rfl)))
   exact Y0 21 rfl (dN h fun w10 h=>qci rfl rfl (X0 7 rfl (rK ⟨_,hF,rfl,h⟩ rfl)))
  refine qr rfl ?_
  obtain rfl:=qb hF;replace hF:=hK2
  refine X0 6 rfl ?_
  replace h:=h.pick [1] rfl
  exact rK ⟨_,hF,rfl,h⟩ rfl
 refine qr rfl ?_
 obtain rfl:=qb hF;replace hF:=hK1
 refine X1 3 0 h rfl (zcL h hF (qoo (h.old ha1)) rfl fun r5 w11 S4 p12 k12 h hF=>X1 14 1 h rfl (qg rfl hF ?_ ?_))<;>intro hF
 ·refine X0 5 rfl ?_
  obtain ⟨o3,hF,hK3⟩:=qc hF
  refine ql ?_
  replace h:=h.pick [1] rfl
  refine rL (fun m e w'=>∃ (i3:Int),qe7 a_0 m i3=some o3∧e=[(1,.pointer (some ⟨bb1,0,none⟩)),(3,.int .i64 r2),(9,.int .i64 i3)]∧SH w w' [Ch.box bb1 (qdD a_0 p1 p2 p3 k1 k2 k3) 166]) n ⟨_,hF,rfl,h⟩ rfl ?_
  rintro m3 e3 w12 ⟨i3,hF,rfl,h⟩
  rcases m3 with _|m3
  ·cases hF
  refine X1 9 0 h rfl (qg rfl hF ?_ ?_)<;>intro hF
  ·refine X1 8 0 h rfl ?_
   obtain ⟨y5,hy5,hF,he5,b6,_,q5,cs6,hp5,hq5,rfl,hc12⟩:=s3.ix hF
   refine zxe hp5 hq5 he5 rfl (zc 0 (hc12.below h.below) rfl (zcB h hF qab rfl fun r6 w13 h hF=>X0 2 rfl (qg rfl hF ?_ ?_)))<;>intro hF
   ·refine X0 4 rfl ?_
    obtain rfl:=qb hF;replace hF:=hK3
    exact rb h hF rfl
   exact X0 7 rfl (rK ⟨_,hF,rfl,h⟩ rfl)
  refine qr rfl ?_
  obtain rfl:=qb hF;replace hF:=hK3
  refine X0 5 rfl (qi (t:=115) hF rfl ?_ ?_)<;>intro hF
  ·refine X2 17 0 0 h rfl ?_
   obtain ⟨y6,hx1,hF⟩:=qc hF
   obtain ⟨g1,hx1⟩:=qqR hx1
   refine r_v (qw7 g1 rfl rfl) rfl ?_
   rw [hx1]
   exact X0 5 rfl (rb h hF rfl)
  exact X0 13 rfl (rb h hF rfl)
 refine X0 5 rfl (qg rfl hF ?_ ?_)<;>intro hF
 ·refine qcE (rD (zd3 rfl (qaM (t:=131) hF rfl ?_ ?_)))<;>intro hF
  ·refine Y0 3 rfl ?_
   obtain ⟨y7,hy6,hF,he6,b7,_,q6,cs7,hp6,hq6,rfl,hc15⟩:=(h.sl 0 rfl).1.ix hF
   refine zdx hp6 hq6 ⟨he6.1,qH he6.2.1 (h.sl 0 rfl).2⟩ rfl (Y0 1 rfl (zdc 0 hc15 rfl (Y0 4 rfl (qaM (t:=137) hF rfl ?_ ?_))))<;>intro hF
   ·refine Y0 3 rfl ?_
    obtain ⟨y8,hy7,hF,he7,b8,_,q7,cs8,hp7,hq7,rfl,hc16⟩:=(h.sl 0 rfl).1.ix hF
    refine zdx hp7 hq7 ⟨he7.1,qH he7.2.1 (h.sl 0 rfl).2⟩ rfl (Y0 1 rfl (zdc 0 hc16 rfl (Y0 5 rfl ?_)))
    obtain ⟨y9,hy8,hF,he8,b9,_,q8,cs9,hp8,hq8,rfl,hc17⟩:=(h.sl 0 rfl).1.ix hF
    refine zdx hp8 hq8 ⟨he8.1,qH he8.2.1 (h.sl 0 rfl).2⟩ rfl (Y0 1 rfl (zdc 0 hc17 rfl (Y0 6 rfl (qaM (t:=148) hF rfl ?_ ?_))))<;>intro hF
    ·refine Y1 4 1 h rfl ?_
     exact Y0 6 rfl (dN h fun w14 h=>rb h hF rfl)
    exact Y0 6 rfl (dN h fun w15 h=>rb h hF rfl)
   exact Y0 17 rfl (dN h fun w16 h=>rb h hF rfl)
  exact Y0 23 rfl (dN h fun w17 h=>rb h hF rfl)
 refine X0 5 rfl (qg rfl hF ?_ ?_)<;>intro hF
 ·refine X0 5 rfl (qi (t:=158) hF rfl ?_ ?_)<;>intro hF
  ·refine X0 3 rfl ?_
   obtain ⟨y10,hy9,hF,he9,b10,_,q9,cs10,hp9,hq9,rfl,hc19⟩:=(h.sl 0 rfl).1.ix hF
   refine zx hp9 hq9 ⟨he9.1,qH he9.2.1 (h.sl 0 rfl).2⟩ rfl (X0 1 rfl (zc 0 hc19 rfl (X0 4 rfl (qi (t:=164) hF rfl ?_ ?_))))<;>intro hF
   ·refine X0 3 rfl ?_
    obtain ⟨y11,hy10,hF,he10,b11,_,q10,cs11,hp10,hq10,rfl,hc20⟩:=(h.sl 0 rfl).1.ix hF
    refine zx hp10 hq10 ⟨he10.1,qH he10.2.1 (h.sl 0 rfl).2⟩ rfl (X0 1 rfl (zc 0 hc20 rfl (X0 4 rfl (qi (t:=170) hF rfl ?_ ?_))))<;>intro hF
    ·refine X0 3 rfl ?_
     obtain ⟨y12,hy11,hF,he11,b12,_,q11,cs12,hp11,hq11,rfl,hc21⟩:=(h.sl 0 rfl).1.ix hF
     refine zx hp11 hq11 ⟨he11.1,qH he11.2.1 (h.sl 0 rfl).2⟩ rfl (X0 1 rfl (zc 0 hc21 rfl (X0 4 rfl (qi (t:=176) hF rfl ?_ ?_))))<;>intro hF
     ·exact X1 11 1 h rfl (rb h hF rfl)
     exact X0 7 rfl (rb h hF rfl)
    exact X0 13 rfl (rb h hF rfl)
   exact X0 19 rfl (rb h hF rfl)
  exact X0 25 rfl (rb h hF rfl)
 exact X0 6 rfl (rb h hF rfl)
def qdk (l:qp) (i1:Int):Nat→Int→Option (Flow Bool Int)
 | 0,_=>none
 | n+1,i2 =>
  bif decide (i2<i1) then
   (idx l.Aq i2).bind fun y2 =>
   (idx l.Aq i1).bind fun y3 =>
   bif (y2.Ba.toList==y3.Ba.toList) then some (.ret false) else
   qdk l i1 n (W64 (i2+1))
  else
   some (.nxt i2)
def qdh (l:qp):Nat→Int→Option (Flow Bool Int)
 | 0,_=>none
 | n+1,i1 =>
  bif decide (i1<(l.Aq.length:Int)) then
   (idx l.Aq i1).bind fun y1 =>
   (qkz n y1).bind fun r1 =>
   bif (!r1) then some (.ret false) else
   (qdk l i1 n 0).bind fun o=>match o with
   | .ret r=>some (.ret r)
   | .nxt _ =>
    qdh l n (W64 (i1+1))
  else
   some (.nxt i1)
def qh3 (n:Nat) (l:qp):Option Bool :=
 (qdh l n 0).bind fun o=>match o with
 | .ret r=>some r
 | .nxt _ =>
  some (decide ((l.Aq.length:Int)≤8))
theorem qnP {l:qp} (ha1:GoT.R w (old w) l cs1) {r:Bool} (hF:qh3 n l=some r):RetV Tryz.prog 163 [GoT.v qp cs1] w r:=by
 obtain ⟨p1,k1,rfl,s1⟩:=qbr ha1
 refine zV 41 Tryz.func163 rfl fun h=>zSR (qu h rfl rfl fun w1 bb1 h=>X0 7 rfl ?_)
 obtain ⟨o1,hF,hK1⟩:=qc hF
 refine ql (rL (fun m e w'=>∃ (i1:Int),qdh l m i1=some o1∧e=[(1,.pointer (some ⟨bb1,0,none⟩)),(3,.int .i64 i1)]∧SH w w' [Ch.box bb1 [.slice p1 l.Aq.length k1] 43]) n ⟨_,hF,rfl,h⟩ rfl ?_)
 rintro m1 e1 w2 ⟨i1,hF,rfl,h⟩
 rcases m1 with _|m1
 ·cases hF
 refine X1 9 0 h rfl (qg rfl hF ?_ ?_)<;>intro hF
 ·refine X1 9 0 h rfl ?_
  obtain ⟨y1,hy1,hF,he1,b1,_,q1,cs2,hp1,hq1,hr1,hc2⟩:=s1.ix hF
  obtain ⟨p2,k2,p3,k3,p4,k4,rfl,s2,s3,s4⟩:=qZ hr1
  refine zxe hp1 hq1 he1 rfl (zc 0 (hc2.below h.below) rfl (zcB h hF (qpU (qjH y1 (h.oldS s2) (h.oldS s3) (h.oldS s4))) rfl fun r1 w3 h hF=>X0 2 rfl (qg rfl hF ?_ ?_)))<;>intro hF
  ·refine X0 4 rfl ?_
   obtain rfl:=qb hF;replace hF:=hK1
   exact rb h hF rfl
  refine X0 5 rfl ?_
  obtain ⟨o2,hF,hK2⟩:=qc hF
  refine ql (rL (fun m e w'=>∃ (i2:Int),qdk l i1 m i2=some o2∧e=[(1,.pointer (some ⟨bb1,0,none⟩)),(3,.int .i64 i1),(4,.int .i64 i2)]∧SH w w' [Ch.box bb1 [.slice p1 l.Aq.length k1] 43]) m1 ⟨_,hF,rfl,h⟩ rfl ?_)
  rintro m2 e2 w4 ⟨i2,hF,rfl,h⟩
  rcases m2 with _|m2
  ·cases hF
  refine X0 7 rfl (qg rfl hF ?_ ?_)<;>intro hF
  ·refine X0 4 rfl (rD (Y1 2 0 h rfl ?_))
   refine zd1 rfl ?_
   obtain ⟨y2,hy2,hF,he2,b2,_,q2,cs3,hp2,hq2,hr3,hc5⟩:=s1.ix hF
   obtain ⟨p5,k5,p6,k6,p7,k7,rfl,s5,s6,s7⟩:=qZ hr3
   refine zdxe hp2 hq2 he2 rfl (zd1 rfl (zdc 0 (hc5.below h.below) rfl (Y1 2 0 h rfl ?_)))
   refine zd1 rfl ?_
   obtain ⟨y3,hy3,hF,he3,b3,_,q3,cs4,hp3,hq3,hr4,hc6⟩:=s1.ix hF
   obtain ⟨p8,k8,p9,k9,p10,k10,rfl,s8,s9,s10⟩:=qZ hr4
   refine zdxe hp3 hq3 he3 rfl (zd1 rfl (zdc 0 (hc6.below h.below) rfl (zd1 rfl (dN h fun w5 h=>qg rfl hF ?_ ?_))))<;>intro hF
   ·refine X0 4 rfl ?_
    obtain rfl:=qb hF;replace hF:=hK2
    obtain rfl:=qb hF;replace hF:=hK1
    exact rb h hF rfl
   exact X0 7 rfl (rK ⟨_,hF,rfl,h⟩ rfl)
  refine qr rfl ?_
  obtain rfl:=qb hF;replace hF:=hK2
  exact X0 6 rfl (rK ⟨_,hF,rfl,h⟩ rfl)
 refine qr rfl ?_
 obtain rfl:=qb hF;replace hF:=hK1
 exact X1 8 0 h rfl (rb h hF rfl)
def qdN (a_1:qd) (y1:qn):Nat→Int→Option (Flow Bool Int)
 | 0,_=>none
 | n+1,i2 =>
  bif decide (i2<(y1.Am.length:Int)) then
   (idx y1.Am i2).bind fun y2 =>
   (qai n y2 0 (W64 ((a_1.Am.length:Int)-1))).bind fun r1 =>
   bif (!r1) then some (.ret false) else
   qdN a_1 y1 n (W64 (i2+1))
  else
   some (.nxt i2)
def qdW (a_1:qd):Nat→Int→Option (Flow Bool Int)
 | 0,_=>none
 | n+1,i3 =>
  bif decide (i3<(a_1.Aj.length:Int)) then
   (idx a_1.Aj i3).bind fun y4 =>
   (qai n y4.Bv 1 2).bind fun r3 =>
   bif (!r3) then some (.ret false) else
   (idx a_1.Aj i3).bind fun y5 =>
   (qai n y5.Bx 0 (W64 ((a_1.Am.length:Int)-1))).bind fun r4 =>
   bif (!r4) then some (.ret false) else
   qdW a_1 n (W64 (i3+1))
  else
   some (.nxt i3)
def qdR (a_0:qp) (a_1:qd):Nat→Int→Option (Flow Bool Int)
 | 0,_=>none
 | n+1,i1 =>
  bif decide (i1<(a_1.Aa.length:Int)) then
   (idx a_1.Aa i1).bind fun y1 =>
   (
    (qai n y1.Bs 0 (W64 ((a_0.Aq.length:Int)-1))).bind fun r2 =>
    bif (!r2) then some true else
    (idx a_0.Aq y1.Bs).bind fun y3 =>
    some ((y1.Am.length:Int) != (y3.Bc.length:Int))).bind fun b2 =>
   bif b2 then some (.ret false) else
   (qdN a_1 y1 n 0).bind fun o=>match o with
   | .ret r=>some (.ret r)
   | .nxt _ =>
    qdR a_0 a_1 n (W64 (i1+1))
  else
   some (.nxt i1)
def qiw (n:Nat) (a_0:qp) (a_1:qd):Option Bool :=
 (qdR a_0 a_1 n 0).bind fun o=>match o with
 | .ret r=>some r
 | .nxt _ =>
  (qdW a_1 n 0).bind fun o=>match o with
  | .ret r=>some r
  | .nxt _ =>
   some true
theorem qov {a_0:qp} {a_1:qd} (ha1:GoT.R w (old w) a_0 cs1) (ha2:GoT.R w (old w) a_1 cs2) {r:Bool} (hF:qiw n a_0 a_1=some r):RetV Tryz.prog 164 [GoT.v qp cs1,GoT.v qd cs2] w r:=by
 obtain ⟨p1,k1,rfl,s1⟩:=qbr ha1
 obtain ⟨p2,k2,p3,k3,p4,k4,rfl,s2,s3,s4⟩:=qap ha2
 refine zV 90 Tryz.func164 rfl fun h=>zSR (qu h rfl rfl fun w1 bb1 h=>qu h rfl rfl fun w2 bb2 h=>X1 14 0 h rfl ?_)
 obtain ⟨o1,hF,hK1⟩:=qc hF
 refine ql (rL (fun m e w'=>∃ (i1:Int),qdR a_0 a_1 m i1=some o1∧e=[(2,.pointer (some ⟨bb1,0,none⟩)),(3,.pointer (some ⟨bb2,0,none⟩)),(5,.int .i64 (a_1.Am.length:Int)),(6,.int .i64 i1)]∧SH w w' [Ch.box bb2 (qaC a_1 p2 p3 p4 k2 k3 k4) 47,Ch.box bb1 [.slice p1 a_0.Aq.length k1] 43]) n ⟨_,hF,rfl,h⟩ rfl ?_)
 rintro m1 e1 w3 ⟨i1,hF,rfl,h⟩
 rcases m1 with _|m1
 ·cases hF
 refine X1 9 0 h rfl (qg rfl hF ?_ ?_)<;>intro hF
 ·refine X1 8 0 h rfl ?_
  obtain ⟨y1,hy1,hF,he1,b1,_,q1,cs3,hp1,hq1,hr1,hc2⟩:=s2.ix hF
  obtain ⟨p5,k5,rfl,s5⟩:=qN hr1
  refine zxe hp1 hq1 he1 rfl (zc 0 (hc2.below h.below) rfl (qm qa h rfl rfl rfl fun w4 bb3 h=>zs 0 h rfl fun w5 h=>zNSS ?_))
  obtain ⟨KF1,hKF1,o3,hF,hK3⟩:=bindE hF
  refine qba (fun e w'=>∃ (b2:Bool),KF1 b2=some o1∧e=[(2,.pointer (some ⟨bb1,0,none⟩)),(3,.pointer (some ⟨bb2,0,none⟩)),(5,.int .i64 (a_1.Am.length:Int)),(6,.int .i64 i1),(7,.pointer (some ⟨bb3,0,none⟩)),(46,.bool b2)]∧SH w w' [Ch.box bb3 (qiZ y1 p5 k5) 168,Ch.box bb2 (qaC a_1 p2 p3 p4 k2 k3 k4) 47,Ch.box bb1 [.slice p1 a_0.Aq.length k1] 43]) ?_ ?_
  ·refine rD (Y1 2 0 h rfl ?_)
   refine Y1 2 2 h rfl ?_
   refine zd2 rfl ?_
   obtain ⟨r2,hr4,hF⟩:=qc hF
   refine qbb r2 (vsB _) (cB 58 rfl) (fun _ hb=>qab  hr4) rfl rfl rfl rfl (zd2 rfl (qaM (t:=33) hF rfl ?_ ?_))<;>intro hF
   ·refine Y0 13 rfl (dN h fun w8 h=>?_)
    obtain rfl:=qb hF
    exact rG ⟨_,hK3,rfl,h⟩ rfl
   refine Y1 4 0 h rfl ?_
   refine Y1 6 2 h rfl ?_
   refine Y1 4 0 h rfl ?_
   refine Y0 1 rfl ?_
   obtain ⟨y3,hy3,hF,he3,b4,_,q3,cs5,hp3,hq3,hr5,hc7⟩:=s1.ix hF
   obtain ⟨p6,k6,p7,k7,p8,k8,rfl,s6,s7,s8⟩:=qZ hr5
   refine zdxe hp3 hq3 he3 rfl (Y0 3 rfl (zdc 2 (hc7.below h.below) rfl (Y0 5 rfl (dN h fun w9 h=>?_))))
   obtain rfl:=qb hF
   exact rG ⟨_,hK3,rfl,h⟩ rfl
  rintro e3 w10 ⟨b2,hF,rfl,h⟩
  subst hKF1
  refine qg rfl hF ?_ ?_<;>intro hF
  ·refine X0 4 rfl ?_
   obtain rfl:=qb hF;replace hF:=hK1
   exact rb h hF rfl
  refine X0 5 rfl ?_
  obtain ⟨o2,hF,hK2⟩:=qc hF
  refine ql (rL (fun m e w'=>∃ (i2:Int),qdN a_1 y1 m i2=some o2∧e=[(2,.pointer (some ⟨bb1,0,none⟩)),(3,.pointer (some ⟨bb2,0,none⟩)),(5,.int .i64 (a_1.Am.length:Int)),(6,.int .i64 i1),(7,.pointer (some ⟨bb3,0,none⟩)),(8,.int .i64 i2)]∧SH w w' [Ch.box bb3 (qiZ y1 p5 k5) 168,Ch.box bb2 (qaC a_1 p2 p3 p4 k2 k3 k4) 47,Ch.box bb1 [.slice p1 a_0.Aq.length k1] 43]) m1 ⟨_,hF,rfl,h⟩ rfl ?_)
  rintro m2 e2 w6 ⟨i2,hF,rfl,h⟩
  rcases m2 with _|m2
  ·cases hF
  refine X1 9 0 h rfl (qg rfl hF ?_ ?_)<;>intro hF
  ·refine X1 8 0 h rfl ?_
   obtain ⟨y2,hy2,hF,he2,b3,_,q2,cs4,hp2,hq2,rfl,hc5⟩:=s5.ix hF
   refine zxe hp2 hq2 he2 rfl (zc 0 (hc5.below h.below) rfl (zp2 rfl (zcB h hF qab rfl fun r1 w7 h hF=>X0 2 rfl (qg rfl hF ?_ ?_))))<;>intro hF
   ·refine X0 4 rfl ?_
    obtain rfl:=qb hF;replace hF:=hK2
    obtain rfl:=qb hF;replace hF:=hK1
    exact rb h hF rfl
   exact X0 7 rfl (rK ⟨_,hF,rfl,h⟩ rfl)
  refine qr rfl ?_
  obtain rfl:=qb hF;replace hF:=hK2
  refine X0 6 rfl ?_
  replace h:=h.pick [1,2] rfl
  exact rK ⟨_,hF,rfl,h⟩ rfl
 refine qr rfl ?_
 obtain rfl:=qb hF;replace hF:=hK1
 refine X0 5 rfl ?_
 obtain ⟨o4,hF,hK4⟩:=qc hF
 refine ql ?_
 replace h:=h.pick [0] rfl
 refine rL (fun m e w'=>∃ (i3:Int),qdW a_1 m i3=some o4∧e=[(3,.pointer (some ⟨bb2,0,none⟩)),(5,.int .i64 (a_1.Am.length:Int)),(9,.int .i64 i3)]∧SH w w' [Ch.box bb2 (qaC a_1 p2 p3 p4 k2 k3 k4) 47]) n ⟨_,hF,rfl,h⟩ rfl ?_
 rintro m3 e4 w11 ⟨i3,hF,rfl,h⟩
 rcases m3 with _|m3
 ·cases hF
 refine X1 9 0 h rfl (qg rfl hF ?_ ?_)<;>intro hF
 ·refine X1 8 0 h rfl ?_
  obtain ⟨y4,hy4,hF,he4,b5,_,q4,cs6,hp4,hq4,hr6,hc9⟩:=s4.ix hF
  obtain rfl:=qa8 hr6
  refine zxe hp4 hq4 he4 rfl (zp1 rfl (zc 1 (hc9.below h.below) rfl (zcB h hF qab rfl fun r3 w12 h hF=>zp2 rfl (qi (t:=78) hF rfl ?_ ?_))))<;>intro hF
  ·refine X0 12 rfl (qbW rfl rfl (X0 4 rfl ?_))
   obtain rfl:=qb hF;replace hF:=hK4
   exact rb h hF rfl
  refine X1 7 0 h rfl ?_
  obtain ⟨y5,hy5,hF,he5,b6,_,q5,cs7,hp5,hq5,hr8,hc10⟩:=s4.ix hF
  obtain rfl:=qa8 hr8
  refine zxe hp5 hq5 he5 rfl (X0 3 rfl (zc 2 (hc10.below h.below) rfl (X0 5 rfl (zcB h hF qab rfl fun r4 w13 h hF=>X0 4 rfl (qg rfl hF ?_ ?_)))))<;>intro hF
  ·refine X0 4 rfl ?_
   obtain rfl:=qb hF;replace hF:=hK4
   exact rb h hF rfl
  exact X0 7 rfl (rK ⟨_,hF,rfl,h⟩ rfl)
 refine qr rfl ?_
 obtain rfl:=qb hF;replace hF:=hK4
 exact X0 4 rfl (rb h hF rfl)
def qdM (list:(List ByteArray)) (i1:Int):Nat→Int→Option (Flow Bool Int)
 | 0,_=>none
 | n+1,i2 =>
  bif decide (i2<i1) then
   (idx list i2).bind fun y2 =>
   (idx list i1).bind fun y3 =>
   bif (y2.toList==y3.toList) then some (.ret false) else
   qdM list i1 n (W64 (i2+1))
  else
   some (.nxt i2)
def qdQ (list:(List ByteArray)):Nat→Int→Option (Flow Bool Int)
 | 0,_=>none
 | n+1,i1 =>
  bif decide (i1<(list.length:Int)) then
   (idx list i1).bind fun y1 =>
   (qfs n y1).bind fun r1 =>
   bif (!r1) then some (.ret false) else
   (qdM list i1 n 0).bind fun o=>match o with
   | .ret r=>some (.ret r)
   | .nxt _ =>
    qdQ list n (W64 (i1+1))
  else
   some (.nxt i1)
def qfR (n:Nat) (list:(List ByteArray)):Option Bool :=
 (qdQ list n 0).bind fun o=>match o with
 | .ret r=>some r
 | .nxt _ =>
  some true
theorem qip {list:(List ByteArray)} (ha1:GoT.R w (old w) list cs1) {r:Bool} (hF:qfR n list=some r):RetV Tryz.prog 165 [GoT.v (List ByteArray) cs1] w r:=by
 obtain ⟨p1,k1,rfl,s1⟩:=ha1
 refine zV 31 Tryz.func165 rfl fun h=>X0 9 rfl ?_
 obtain ⟨o1,hF,hK1⟩:=qc hF
 refine ql (rL (fun m e w'=>∃ (i1:Int),qdQ list m i1=some o1∧e=[(0,.slice p1 list.length k1),(3,.int .i64 i1)]∧SH w w' []) n ⟨_,hF,rfl,h⟩ rfl ?_)
 rintro m1 e1 w1 ⟨i1,hF,rfl,h⟩
 rcases m1 with _|m1
 ·cases hF
 refine X0 8 rfl (qg rfl hF ?_ ?_)<;>intro hF
 ·refine X0 8 rfl ?_
  obtain ⟨y1,hy1,hF,he1,b1,_,q1,cs2,hp1,hq1,rfl,hc2⟩:=s1.ix hF
  refine zxe hp1 hq1 he1 rfl (zc 0 (hc2.below h.below) rfl (zcB h hF qhf rfl fun r1 w2 h hF=>X0 2 rfl (qg rfl hF ?_ ?_)))<;>intro hF
  ·refine X0 4 rfl ?_
   obtain rfl:=qb hF;replace hF:=hK1
   exact rb h hF rfl
  refine X0 5 rfl ?_
  obtain ⟨o2,hF,hK2⟩:=qc hF
  refine ql (rL (fun m e w'=>∃ (i2:Int),qdM list i1 m i2=some o2∧e=[(0,.slice p1 list.length k1),(3,.int .i64 i1),(4,.int .i64 i2)]∧SH w w' []) m1 ⟨_,hF,rfl,h⟩ rfl ?_)
  rintro m2 e2 w3 ⟨i2,hF,rfl,h⟩
  rcases m2 with _|m2
  ·cases hF
  refine X0 7 rfl (qg rfl hF ?_ ?_)<;>intro hF
  ·refine X0 4 rfl (rD (zd2 rfl ?_))
   obtain ⟨y2,hy2,hF,he2,b2,_,q2,cs3,hp2,hq2,rfl,hc5⟩:=s1.ix hF
   refine zdxe hp2 hq2 he2 rfl (zdc 0 (hc5.below h.below) rfl (zd2 rfl ?_))
   obtain ⟨y3,hy3,hF,he3,b3,_,q3,cs4,hp3,hq3,rfl,hc6⟩:=s1.ix hF
   refine zdxe hp3 hq3 he3 rfl (zdc 0 (hc6.below h.below) rfl (zd1 rfl (dN h fun w4 h=>qg rfl hF ?_ ?_)))<;>intro hF
   ·refine X0 4 rfl ?_
    obtain rfl:=qb hF;replace hF:=hK2
    obtain rfl:=qb hF;replace hF:=hK1
    exact rb h hF rfl
   exact X0 7 rfl (rK ⟨_,hF,rfl,h⟩ rfl)
  refine qr rfl ?_
  obtain rfl:=qb hF;replace hF:=hK2
  exact X0 6 rfl (rK ⟨_,hF,rfl,h⟩ rfl)
 refine qr rfl ?_
 obtain rfl:=qb hF;replace hF:=hK1
 exact X0 4 rfl (rb h hF rfl)
def qdO (x5:(List Int)) (x7:(List Int)):Nat→Int→Option (Flow Bool Int)
 | 0,_=>none
 | n+1,i5 =>
  bif decide (i5<(x5.length:Int)) then
   (idx x7 i5).bind fun y11 =>
   bif (y11 != 1) then some (.ret false) else
   qdO x5 x7 n (W64 (i5+1))
  else
   some (.nxt i5)
def qcf (a_1:qd):Nat→(List Int)→Int→Option ((List Int) × Int)
 | 0,_,_=>none
 | n+1,x7,i4 =>
  bif decide (i4<(a_1.Aj.length:Int)) then
   (idx a_1.Aj i4).bind fun y7 =>
   bif (y7.Bv==1) then
    (idx a_1.Aj i4).bind fun y8 =>
    (idx x7 y8.Bx).bind fun y9 =>
    (idx x7 y8.Bx).bind fun _ =>
    qcf a_1 n (setS x7 y8.Bx (W64 (y9+1))) (W64 (i4+1))
   else
    qcf a_1 n x7 (W64 (i4+1))
  else
   some (x7,i4)
def qcZ (a_1:qd):Nat→(List Int)→Int→Option ((List Int) × Int)
 | 0,_,_=>none
 | n+1,x6,i3 =>
  bif decide (i3<(a_1.Aa.length:Int)) then
   (idx a_1.Aa i3).bind fun y3 =>
   (idx y3.Am (W64 ((y3.Am.length:Int)-1))).bind fun y4 =>
   (idx x6 y4).bind fun y5 =>
   (idx x6 y4).bind fun _ =>
   qcZ a_1 n (setS x6 y4 (W64 (y5+1))) (W64 (i3+1))
  else
   some (x6,i3)
def qc1 (a_1:qd):Nat→(List ByteArray)→Int→Option ((List ByteArray) × Int)
 | 0,_,_=>none
 | n+1,x3,i2 =>
  bif decide (i2<(a_1.Aj.length:Int)) then
   (idx a_1.Aj i2).bind fun y2 =>
   (appS x3 ([y2.Ba]:List ByteArray)).bind fun x4 =>
   qc1 a_1 n x4 (W64 (i2+1))
  else
   some (x3,i2)
def qcT (a_1:qd):Nat→(List ByteArray)→Int→Option ((List ByteArray) × Int)
 | 0,_,_=>none
 | n+1,x1,i1 =>
  bif decide (i1<(a_1.Aa.length:Int)) then
   (idx a_1.Aa i1).bind fun y1 =>
   (appS x1 ([y1.Ba]:List ByteArray)).bind fun x2 =>
   qcT a_1 n x2 (W64 (i1+1))
  else
   some (x1,i1)
def qiC (n:Nat) (a_0:qp) (a_1:qd):Option Bool :=
 (
  (qh3 n a_0).bind fun r4 =>
  bif (!r4) then some true else
  bif decide ((a_1.Aa.length:Int) > 14) then some true else
  bif decide ((a_1.Am.length:Int) > 30) then some true else
  bif decide ((a_1.Aj.length:Int) > 8) then some true else
  (qiw n a_0 a_1).bind fun r5 =>
  some (!r5)).bind fun b1 =>
 bif b1 then some false else
 (qcT a_1 n ([]:List ByteArray) 0).bind fun o=>match o with
 | (x1,_) =>
  (qc1 a_1 n ([]:List ByteArray) 0).bind fun o=>match o with
  | (x3,_) =>
   (
    (qfR n x1).bind fun r1 =>
    bif (!r1) then some true else
    (qfR n x3).bind fun r2 =>
    bif (!r2) then some true else
    (qfR n a_1.Am).bind fun r3 =>
    some (!r3)).bind fun b4 =>
   bif b4 then some false else
   (mkS (a_1.Am.length:Int) (0:Int)).bind fun x5 =>
   (qcZ a_1 n x5 0).bind fun o=>match o with
   | (x6,_) =>
    (qcf a_1 n x6 0).bind fun o=>match o with
    | (x7,_) =>
     (qdO x5 x7 n 0).bind fun o=>match o with
     | .ret r=>some r
     | .nxt _ =>
      some true
theorem qoi {a_0:qp} {a_1:qd} (ha1:GoT.R w (old w) a_0 cs1) (ha2:GoT.R w (old w) a_1 cs2) {r:Bool} (hF:qiC n a_0 a_1=some r):RetV Tryz.prog 124 [GoT.v qp cs1,GoT.v qd cs2] w r:=by
 obtain ⟨p1,k1,rfl,s1⟩:=qbr ha1
 obtain ⟨p2,k2,p3,k3,p4,k4,rfl,s2,s3,s4⟩:=qap ha2
 refine zV 153 Tryz.func124 rfl fun h=>zSR (qu h rfl rfl fun w1 bb1 h=>qu h rfl rfl fun w2 bb2 h=>X0 4 rfl ?_)
 obtain ⟨KF2,hKF2,o7,hF,hK7⟩:=bindE hF
 refine qba (fun e w'=>∃ (b1:Bool),KF2 b1=some r∧e=[(3,.pointer (some ⟨bb2,0,none⟩)),(40,.bool b1)]∧SH w w' [Ch.box bb2 (qaC a_1 p2 p3 p4 k2 k3 k4) 47]) ?_ ?_
 ·refine X1 2 1 h rfl (zcB h hF (qnP (h.old ha1)) rfl fun r4 w21 h hF=>zp2 rfl (qi (t:=17) hF rfl ?_ ?_))<;>intro hF
  ·refine X0 24 rfl ?_
   replace h:=h.pick [0] rfl
   obtain rfl:=qb hF
   exact rG ⟨_,hK7,rfl,h⟩ rfl
  refine X1 10 0 h rfl (qi (t:=23) hF rfl ?_ ?_)<;>intro hF
  ·refine X0 18 rfl ?_
   replace h:=h.pick [0] rfl
   obtain rfl:=qb hF
   exact rG ⟨_,hK7,rfl,h⟩ rfl
  refine X1 10 0 h rfl (qi (t:=29) hF rfl ?_ ?_)<;>intro hF
  ·refine X0 12 rfl ?_
   replace h:=h.pick [0] rfl
   obtain rfl:=qb hF
   exact rG ⟨_,hK7,rfl,h⟩ rfl
  refine X1 10 0 h rfl (qi (t:=35) hF rfl ?_ ?_)<;>intro hF
  ·refine X0 6 rfl ?_
   replace h:=h.pick [0] rfl
   obtain rfl:=qb hF
   exact rG ⟨_,hK7,rfl,h⟩ rfl
  refine X2 5 1 0 h rfl (zcB h hF (qov (h.old ha1) (h.old ha2)) rfl fun r5 w22 h hF=>X0 4 rfl ?_)
  replace h:=h.pick [0] rfl
  obtain rfl:=qb hF
  exact rG ⟨_,hK7,rfl,h⟩ rfl
 rintro e7 w23 ⟨b1,hF,rfl,h⟩
 subst hKF2
 refine qg rfl hF ?_ ?_<;>intro hF
 ·exact X0 4 rfl (rb h hF rfl)
 refine zKSR (qO qa [] _ ([]:List ByteArray) h rfl rfl rfl rfl rfl rfl rfl rfl rfl trivial rfl fun w3 p5 S1 h=>X0 7 rfl ?_)
 obtain ⟨o1,hF,hK1⟩:=qc hF
 refine ql (rL (fun m e w'=>∃ (S2:Nat→Prop) (p6:Option Addr) (ln1:Nat) (k5:Nat) (x1:(List ByteArray)) (i1:Int),qcT a_1 m x1 i1=some o1∧e=[(3,.pointer (some ⟨bb2,0,none⟩)),(5,.slice p6 ln1 k5),(6,.int .i64 i1)]∧SH w w' [Ch.own S2 (x1:List ByteArray) [.slice p6 ln1 k5],Ch.box bb2 (qaC a_1 p2 p3 p4 k2 k3 k4) 47]) n ⟨_,_,_,_,_,_,hF,rfl,h⟩ rfl ?_)
 rintro m1 e1 w4 ⟨S2,p6,ln1,k5,x1,i1,hF,rfl,h⟩
 obtain rfl:=(h.sl 0 rfl).2
 rcases m1 with _|m1
 ·cases hF
 refine X1 9 1 h rfl (qg rfl hF ?_ ?_)<;>intro hF
 ·refine X1 8 1 h rfl ?_
  obtain ⟨y1,hy1,hF,he1,b2,_,q1,cs3,hp1,hq1,hr1,hc3⟩:=s2.ix hF
  obtain ⟨p7,k6,rfl,s5⟩:=qN hr1
  refine zxe hp1 hq1 he1 rfl (zp1 rfl (zc 0 (hc3.below h.below) rfl (qO qa [.tmp 55] _ ([y1.Ba]:List ByteArray) h rfl rfl rfl rfl rfl rfl rfl rfl rfl ⟨rfl,trivial⟩ rfl fun w5 p8 S3 h=>?_)))
  obtain ⟨x2,hx1,hF⟩:=qc hF
  obtain ⟨g1,hx1⟩:=qar hx1
  refine qcM qa 1 h rfl (h.sl 0 rfl).1 (h.sl 0 rfl).2 rfl rfl rfl rfl rfl rfl rfl rfl rfl g1 hx1 rfl fun w6 p9 k7 S4 h=>X0 8 rfl ?_
  replace h:=h.pick [1,2] rfl
  exact rK ⟨_,_,_,_,_,_,hF,rfl,h⟩ rfl
 refine qr rfl ?_
 obtain rfl:=qb hF;replace hF:=hK1
 refine zSR (qO qa [] _ ([]:List ByteArray) h rfl rfl rfl rfl rfl rfl rfl rfl rfl trivial rfl fun w7 p10 S5 h=>X0 7 rfl ?_)
 obtain ⟨o2,hF,hK2⟩:=qc hF
 refine ql (rL (fun m e w'=>∃ (S6:Nat→Prop) (p11:Option Addr) (ln2:Nat) (k8:Nat) (x3:(List ByteArray)) (i2:Int),qc1 a_1 m x3 i2=some o2∧e=[(3,.pointer (some ⟨bb2,0,none⟩)),(5,.slice p6 x1.length k5),(7,.slice p11 ln2 k8),(8,.int .i64 i2)]∧SH w w' [Ch.own S6 (x3:List ByteArray) [.slice p11 ln2 k8],Ch.own S2 (x1:List ByteArray) [.slice p6 x1.length k5],Ch.box bb2 (qaC a_1 p2 p3 p4 k2 k3 k4) 47]) n ⟨_,_,_,_,_,_,hF,rfl,h⟩ rfl ?_)
 rintro m2 e2 w8 ⟨S6,p11,ln2,k8,x3,i2,hF,rfl,h⟩
 obtain rfl:=(h.sl 0 rfl).2
 rcases m2 with _|m2
 ·cases hF
 refine X1 9 2 h rfl (qg rfl hF ?_ ?_)<;>intro hF
 ·refine X1 8 2 h rfl ?_
  obtain ⟨y2,hy2,hF,he2,b3,_,q2,cs4,hp2,hq2,hr2,hc5⟩:=s4.ix hF
  obtain rfl:=qa8 hr2
  refine zxe hp2 hq2 he2 rfl (zp1 rfl (zc 0 (hc5.below h.below) rfl (qO qa [.tmp 72] _ ([y2.Ba]:List ByteArray) h rfl rfl rfl rfl rfl rfl rfl rfl rfl ⟨rfl,trivial⟩ rfl fun w9 p12 S7 h=>?_)))
  obtain ⟨x4,hx2,hF⟩:=qc hF
  obtain ⟨g2,hx2⟩:=qar hx2
  refine qcM qa 1 h rfl (h.sl 0 rfl).1 (h.sl 0 rfl).2 rfl rfl rfl rfl rfl rfl rfl rfl rfl g2 hx2 rfl fun w10 p13 k9 S8 h=>X0 8 rfl ?_
  replace h:=h.pick [1,2,3] rfl
  exact rK ⟨_,_,_,_,_,_,hF,rfl,h⟩ rfl
 refine qr rfl ?_
 obtain rfl:=qb hF;replace hF:=hK2
 refine zSS ?_
 obtain ⟨KF1,hKF1,o6,hF,hK6⟩:=bindE hF
 refine qba (fun e w'=>∃ (b4:Bool),KF1 b4=some r∧e=[(3,.pointer (some ⟨bb2,0,none⟩)),(88,.bool b4)]∧SH w w' [Ch.box bb2 (qaC a_1 p2 p3 p4 k2 k3 k4) 47]) ?_ ?_
 ·refine X0 2 rfl (zcB h hF (qip (h.own 1 rfl)) rfl fun r1 w17 h hF=>zp2 rfl (qi (t:=78) hF rfl ?_ ?_))<;>intro hF
  ·refine X0 11 rfl ?_
   replace h:=h.pick [2] rfl
   obtain rfl:=qb hF
   exact rG ⟨_,hK6,rfl,h⟩ rfl
  refine X0 3 rfl (zcB h hF (qip (h.own 0 rfl)) rfl fun r2 w18 h hF=>X0 4 rfl (qi (t:=83) hF rfl ?_ ?_))<;>intro hF
  ·refine X0 6 rfl ?_
   replace h:=h.pick [2] rfl
   obtain rfl:=qb hF
   exact rG ⟨_,hK6,rfl,h⟩ rfl
  refine X1 5 2 h rfl (zcB h hF (qip ⟨_,_,rfl,(h.oldS s3)⟩) rfl fun r3 w19 h hF=>X0 4 rfl ?_)
  replace h:=h.pick [2] rfl
  obtain rfl:=qb hF
  exact rG ⟨_,hK6,rfl,h⟩ rfl
 rintro e6 w20 ⟨b4,hF,rfl,h⟩
 subst hKF1
 refine qg rfl hF ?_ ?_<;>intro hF
 ·exact X0 4 rfl (rb h hF rfl)
 refine X1 6 0 h rfl ?_
 obtain ⟨x5,hx3,hF⟩:=qc hF
 obtain ⟨g3,g4,hx3⟩:=qJ hx3
 refine qad qa Int h rfl rfl rfl rfl rfl rfl rfl rfl rfl g3 g4 hx3 rfl fun w11 S9 p14 h=>X0 7 rfl ?_
 obtain ⟨o3,hF,hK3⟩:=qc hF
 refine ql (rL (fun m e w'=>∃ (x6:(List Int)) (i3:Int),qcZ a_1 m x6 i3=some o3∧e=[(3,.pointer (some ⟨bb2,0,none⟩)),(9,.slice p14 x5.length x5.length),(10,.int .i64 i3)]∧SH w w' [Ch.own S9 (x6:List Int) [.slice p14 x5.length x5.length],Ch.box bb2 (qaC a_1 p2 p3 p4 k2 k3 k4) 47]) n ⟨_,_,hF,rfl,h⟩ rfl ?_)
 rintro m3 e3 w12 ⟨x6,i3,hF,rfl,h⟩
 rcases m3 with _|m3
 ·cases hF
 refine X1 9 1 h rfl (qg rfl hF ?_ ?_)<;>intro hF
 ·refine X1 8 1 h rfl ?_
  obtain ⟨y3,hy3,hF,he3,b5,_,q3,cs5,hp3,hq3,hr3,hc8⟩:=s2.ix hF
  obtain ⟨p15,k10,rfl,s6⟩:=qN hr3
  refine zxe hp3 hq3 he3 rfl (zp1 rfl (zc 2 (hc8.below h.below) rfl (X0 8 rfl ?_)))
  obtain ⟨y4,hy4,hF,he4,b6,_,q4,cs6,hp4,hq4,rfl,hc9⟩:=s6.ix hF
  refine zxe hp4 hq4 he4 rfl (zc 0 (hc9.below h.below) rfl ?_)
  obtain ⟨y5,hy5,hF,he5,b7,_,q5,cs7,hp5,hq5,rfl,hc10⟩:=(h.sl 0 rfl).1.ix hF
  refine zx hp5 hq5 ⟨he5.1,qH he5.2.1 (h.sl 0 rfl).2⟩ rfl (zc 0 hc10 rfl (zp1 rfl ?_))
  obtain ⟨y6,hy6,hF,he6,b8,_,q6,cs8,hp6,hq6,rfl,hc11⟩:=(h.sl 0 rfl).1.ix hF
  exact zx hp6 hq6 ⟨he6.1,qH he6.2.1 (h.sl 0 rfl).2⟩ rfl (qaW qa 0 0 (W64 (y5+1)) h rfl hy6 hp6 hq6 rfl hc11 rfl rfl rfl rfl rfl rfl rfl fun w13 h=>X0 7 rfl (rK ⟨_,_,hF,rfl,h⟩ rfl))
 refine qr rfl ?_
 obtain rfl:=qb hF;replace hF:=hK3
 refine X0 5 rfl ?_
 obtain ⟨o4,hF,hK4⟩:=qc hF
 refine ql (rL (fun m e w'=>∃ (x7:(List Int)) (i4:Int),qcf a_1 m x7 i4=some o4∧e=[(3,.pointer (some ⟨bb2,0,none⟩)),(9,.slice p14 x5.length x5.length),(12,.int .i64 i4)]∧SH w w' [Ch.own S9 (x7:List Int) [.slice p14 x5.length x5.length],Ch.box bb2 (qaC a_1 p2 p3 p4 k2 k3 k4) 47]) n ⟨_,_,hF,rfl,h⟩ rfl ?_)
 rintro m4 e4 w14 ⟨x7,i4,hF,rfl,h⟩
 rcases m4 with _|m4
 ·cases hF
 refine X1 9 1 h rfl (qg rfl hF ?_ ?_)<;>intro hF
 ·refine X1 8 1 h rfl ?_
  obtain ⟨y7,hy7,hF,he7,b9,_,q7,cs9,hp7,hq7,hr7,hc13⟩:=s4.ix hF
  obtain rfl:=qa8 hr7
  refine zxe hp7 hq7 he7 rfl (zp1 rfl (zc 1 (hc13.below h.below) rfl (X0 2 rfl (qg rfl hF ?_ ?_))))<;>intro hF
  ·refine X1 5 1 h rfl ?_
   obtain ⟨y8,hy8,hF,he8,b10,_,q8,cs10,hp8,hq8,hr8,hc15⟩:=s4.ix hF
   obtain rfl:=qa8 hr8
   refine zxe hp8 hq8 he8 rfl (zp1 rfl (zc 2 (hc15.below h.below) rfl ?_))
   obtain ⟨y9,hy9,hF,he9,b11,_,q9,cs11,hp9,hq9,rfl,hc16⟩:=(h.sl 0 rfl).1.ix hF
   refine zx hp9 hq9 ⟨he9.1,qH he9.2.1 (h.sl 0 rfl).2⟩ rfl (zc 0 hc16 rfl (zp1 rfl ?_))
   obtain ⟨y10,hy10,hF,he10,b12,_,q10,cs12,hp10,hq10,rfl,hc17⟩:=(h.sl 0 rfl).1.ix hF
   exact zx hp10 hq10 ⟨he10.1,qH he10.2.1 (h.sl 0 rfl).2⟩ rfl (qaW qa 0 0 (W64 (y9+1)) h rfl hy10 hp10 hq10 rfl hc17 rfl rfl rfl rfl rfl rfl rfl fun w15 h=>X0 7 rfl (rK ⟨_,_,hF,rfl,h⟩ rfl))
  exact X0 7 rfl (rK ⟨_,_,hF,rfl,h⟩ rfl)
 refine qr rfl ?_
 obtain rfl:=qb hF;replace hF:=hK4
 refine X0 5 rfl ?_
 obtain ⟨o5,hF,hK5⟩:=qc hF
 refine ql ?_
 replace h:=h.pick [0] rfl
 refine rL (fun m e w'=>∃ (i5:Int),qdO x5 x7 m i5=some o5∧e=[(9,.slice p14 x5.length x5.length),(13,.int .i64 i5)]∧SH w w' [Ch.own S9 (x7:List Int) [.slice p14 x5.length x5.length]]) n ⟨_,hF,rfl,h⟩ rfl ?_
 rintro m5 e5 w16 ⟨i5,hF,rfl,h⟩
 rcases m5 with _|m5
 ·cases hF
 refine X0 8 rfl (qg rfl hF ?_ ?_)<;>intro hF
 ·refine X0 7 rfl ?_
  obtain ⟨y11,hy11,hF,he11,b13,_,q11,cs13,hp11,hq11,rfl,hc19⟩:=(h.sl 0 rfl).1.ix hF
  refine zx hp11 hq11 ⟨he11.1,qH he11.2.1 (h.sl 0 rfl).2⟩ rfl (zc 0 hc19 rfl (X0 2 rfl (qg rfl hF ?_ ?_)))<;>intro hF
  ·refine X0 4 rfl ?_
   obtain rfl:=qb hF;replace hF:=hK5
   exact rb h hF rfl
  exact X0 7 rfl (rK ⟨_,hF,rfl,h⟩ rfl)
 refine qr rfl ?_
 obtain rfl:=qb hF;replace hF:=hK5
 exact X0 4 rfl (rb h hF rfl)
def qfd (a_0:qQ):Nat→Int→Option (Flow Bool Int)
 | 0,_=>none
 | n+1,i2 =>
  bif decide (i2<(a_0.Bl.length:Int)) then
   (idx a_0.Bl i2).bind fun y7 =>
   (qai n y7 0 (W64 ((a_0.Ak.length:Int)-1))).bind fun r5 =>
   bif (!r5) then some (.ret false) else
   qfd a_0 n (W64 (i2+1))
  else
   some (.nxt i2)
def qcq (a_0:qQ):Nat→Int→Option (Flow Bool Int)
 | 0,_=>none
 | n+1,i1 =>
  bif decide (i1<(a_0.Ak.length:Int)) then
   (
    (idx a_0.Bt i1).bind fun y5 =>
    (qai n y5 0 500).bind fun r3 =>
    bif (!r3) then some true else
    (idx a_0.Bw i1).bind fun y6 =>
    (qai n y6 0 1000).bind fun r4 =>
    some (!r4)).bind fun b2 =>
   bif b2 then some (.ret false) else
   bif (i1==0) then
    (idx a_0.Ak i1).bind fun y1 =>
    bif (y1 != (-1)) then some (.ret false) else
    (idx a_0.Bw i1).bind fun y2 =>
    bif (y2 != 0) then some (.ret false) else
    bif decide (i1 > 0) then
     (idx a_0.Ak i1).bind fun y3 =>
     (qai n y3 0 (W64 (i1-1))).bind fun r1 =>
     bif (!r1) then some (.ret false) else
     qcq a_0 n (W64 (i1+1))
    else
     qcq a_0 n (W64 (i1+1))
   else
    bif decide (i1 > 0) then
     (idx a_0.Ak i1).bind fun y4 =>
     (qai n y4 0 (W64 (i1-1))).bind fun r2 =>
     bif (!r2) then some (.ret false) else
     qcq a_0 n (W64 (i1+1))
    else
     qcq a_0 n (W64 (i1+1))
  else
   some (.nxt i1)
def qky (n:Nat) (a_0:qQ) (a_1:Int):Option Bool :=
 (
  bif decide ((a_0.Ak.length:Int)<1) then some true else
  bif decide ((a_0.Ak.length:Int) > 8) then some true else
  bif ((a_0.Bw.length:Int) != (a_0.Ak.length:Int)) then some true else
  bif ((a_0.Bt.length:Int) != (a_0.Ak.length:Int)) then some true else
  some ((a_0.Bl.length:Int) != a_1)).bind fun b1 =>
 bif b1 then some false else
 (qcq a_0 n 0).bind fun o=>match o with
 | .ret r=>some r
 | .nxt _ =>
  (qfd a_0 n 0).bind fun o=>match o with
  | .ret r=>some r
  | .nxt _ =>
   some true
theorem qqa {a_0:qQ} {a_1:Int} (ha1:GoT.R w (old w) a_0 cs1) {r:Bool} (hF:qky n a_0 a_1=some r):RetV Tryz.prog 125 [GoT.v qQ cs1,.int .i64 a_1] w r:=by
 obtain ⟨p1,k1,p2,k2,p3,k3,p4,k4,rfl,s1,s2,s3,s4⟩:=qaD ha1
 refine zV 108 Tryz.func125 rfl fun h=>zSR (qu h rfl rfl fun w1 bb1 h=>X1 11 0 h rfl ?_)
 obtain ⟨KF2,hKF2,o4,hF,hK4⟩:=bindE hF
 refine qba (fun e w'=>∃ (b1:Bool),KF2 b1=some r∧e=[(2,.pointer (some ⟨bb1,0,none⟩)),(5,.int .i64 (a_0.Ak.length:Int)),(37,.bool b1)]∧SH w w' [Ch.box bb1 (qf1 a_0 p1 p2 p3 p4 k1 k2 k3 k4) 186]) ?_ ?_
 ·refine X0 4 rfl (qi (t:=13) hF rfl ?_ ?_)<;>intro hF
  ·refine X0 25 rfl ?_
   obtain rfl:=qb hF
   exact rG ⟨_,hK4,rfl,h⟩ rfl
  refine X0 6 rfl (qi (t:=17) hF rfl ?_ ?_)<;>intro hF
  ·refine X0 21 rfl ?_
   obtain rfl:=qb hF
   exact rG ⟨_,hK4,rfl,h⟩ rfl
  refine X1 12 0 h rfl (qi (t:=24) hF rfl ?_ ?_)<;>intro hF
  ·refine X0 14 rfl ?_
   obtain rfl:=qb hF
   exact rG ⟨_,hK4,rfl,h⟩ rfl
  refine X1 12 0 h rfl (qi (t:=31) hF rfl ?_ ?_)<;>intro hF
  ·refine X0 7 rfl ?_
   obtain rfl:=qb hF
   exact rG ⟨_,hK4,rfl,h⟩ rfl
  refine X1 12 0 h rfl ?_
  obtain rfl:=qb hF
  exact rG ⟨_,hK4,rfl,h⟩ rfl
 rintro e4 w10 ⟨b1,hF,rfl,h⟩
 subst hKF2
 refine qg rfl hF ?_ ?_<;>intro hF
 ·exact X0 4 rfl (rb h hF rfl)
 refine X0 6 rfl ?_
 obtain ⟨o1,hF,hK1⟩:=qc hF
 refine ql (rL (fun m e w'=>∃ (i1:Int),qcq a_0 m i1=some o1∧e=[(2,.pointer (some ⟨bb1,0,none⟩)),(5,.int .i64 (a_0.Ak.length:Int)),(6,.int .i64 i1)]∧SH w w' [Ch.box bb1 (qf1 a_0 p1 p2 p3 p4 k1 k2 k3 k4) 186]) n ⟨_,hF,rfl,h⟩ rfl ?_)
 rintro m1 e1 w2 ⟨i1,hF,rfl,h⟩
 rcases m1 with _|m1
 ·cases hF
 refine X0 7 rfl (qg rfl hF ?_ ?_)<;>intro hF
 ·refine X0 5 rfl ?_
  obtain ⟨KF1,hKF1,o2,hF,hK2⟩:=bindE hF
  refine qba (fun e w'=>∃ (b2:Bool),KF1 b2=some o1∧e=[(2,.pointer (some ⟨bb1,0,none⟩)),(5,.int .i64 (a_0.Ak.length:Int)),(6,.int .i64 i1),(58,.bool b2)]∧SH w w' [Ch.box bb1 (qf1 a_0 p1 p2 p3 p4 k1 k2 k3 k4) 186]) ?_ ?_
  ·refine X1 4 0 h rfl ?_
   obtain ⟨y5,hy5,hF,he5,b7,_,q5,cs6,hp5,hq5,rfl,hc10⟩:=s3.ix hF
   refine zxe hp5 hq5 he5 rfl (zc 0 (hc10.below h.below) rfl (zcB h hF qab rfl fun r3 w5 h hF=>zp2 rfl (qi (t:=50) hF rfl ?_ ?_)))<;>intro hF
   ·refine X0 9 rfl ?_
    obtain rfl:=qb hF
    exact rG ⟨_,hK2,rfl,h⟩ rfl
   refine X1 7 0 h rfl ?_
   obtain ⟨y6,hy6,hF,he6,b8,_,q6,cs7,hp6,hq6,rfl,hc11⟩:=s2.ix hF
   refine zxe hp6 hq6 he6 rfl (X0 1 rfl (zc 0 (hc11.below h.below) rfl (X0 1 rfl (zcB h hF qab rfl fun r4 w6 h hF=>X0 4 rfl ?_))))
   obtain rfl:=qb hF
   exact rG ⟨_,hK2,rfl,h⟩ rfl
  rintro e2 w7 ⟨b2,hF,rfl,h⟩
  subst hKF1
  refine qg rfl hF ?_ ?_<;>intro hF
  ·refine X0 4 rfl ?_
   obtain rfl:=qb hF;replace hF:=hK1
   exact rb h hF rfl
  refine X0 6 rfl (qi (t:=61) hF rfl ?_ ?_)<;>intro hF
  ·refine X1 7 0 h rfl ?_
   obtain ⟨y1,hy1,hF,he1,b3,_,q1,cs2,hp1,hq1,rfl,hc4⟩:=s1.ix hF
   refine zxe hp1 hq1 he1 rfl (X0 1 rfl (zc 0 (hc4.below h.below) rfl (X0 4 rfl (qi (t:=68) hF rfl ?_ ?_))))<;>intro hF
   ·refine X0 25 rfl (qbW rfl rfl (X0 4 rfl ?_))
    obtain rfl:=qb hF;replace hF:=hK1
    exact rb h hF rfl
   refine X1 7 0 h rfl ?_
   obtain ⟨y2,hy2,hF,he2,b4,_,q2,cs3,hp2,hq2,rfl,hc5⟩:=s2.ix hF
   refine zxe hp2 hq2 he2 rfl (X0 1 rfl (zc 0 (hc5.below h.below) rfl (X0 6 rfl (qi (t:=77) hF rfl ?_ ?_))))<;>intro hF
   ·refine X0 15 rfl (qbW rfl rfl (X0 4 rfl ?_))
    obtain rfl:=qb hF;replace hF:=hK1
    exact rb h hF rfl
   refine X0 6 rfl (qi (t:=80) hF rfl ?_ ?_)<;>intro hF
   ·refine X1 7 0 h rfl ?_
    obtain ⟨y3,hy3,hF,he3,b5,_,q3,cs4,hp3,hq3,rfl,hc6⟩:=s1.ix hF
    refine zxe hp3 hq3 he3 rfl (X0 1 rfl (zc 0 (hc6.below h.below) rfl (X0 5 rfl (zcB h hF qab rfl fun r1 w3 h hF=>X0 6 rfl (qg rfl hF ?_ ?_)))))<;>intro hF
    ·refine X0 4 rfl ?_
     obtain rfl:=qb hF;replace hF:=hK1
     exact rb h hF rfl
    exact X0 7 rfl (rK ⟨_,hF,rfl,h⟩ rfl)
   exact X0 13 rfl (qci rfl rfl (X0 7 rfl (rK ⟨_,hF,rfl,h⟩ rfl)))
  refine X0 22 rfl (qi (t:=80) hF rfl ?_ ?_)<;>intro hF
  ·refine X1 7 0 h rfl ?_
   obtain ⟨y4,hy4,hF,he4,b6,_,q4,cs5,hp4,hq4,rfl,hc8⟩:=s1.ix hF
   refine zxe hp4 hq4 he4 rfl (X0 1 rfl (zc 0 (hc8.below h.below) rfl (X0 5 rfl (zcB h hF qab rfl fun r2 w4 h hF=>X0 6 rfl (qg rfl hF ?_ ?_)))))<;>intro hF
   ·refine X0 4 rfl ?_
    obtain rfl:=qb hF;replace hF:=hK1
    exact rb h hF rfl
   exact X0 7 rfl (rK ⟨_,hF,rfl,h⟩ rfl)
  exact X0 13 rfl (qci rfl rfl (X0 7 rfl (rK ⟨_,hF,rfl,h⟩ rfl)))
 refine qr rfl ?_
 obtain rfl:=qb hF;replace hF:=hK1
 refine X0 5 rfl ?_
 obtain ⟨o3,hF,hK3⟩:=qc hF
 refine ql (rL (fun m e w'=>∃ (i2:Int),qfd a_0 m i2=some o3∧e=[(2,.pointer (some ⟨bb1,0,none⟩)),(5,.int .i64 (a_0.Ak.length:Int)),(7,.int .i64 i2)]∧SH w w' [Ch.box bb1 (qf1 a_0 p1 p2 p3 p4 k1 k2 k3 k4) 186]) n ⟨_,hF,rfl,h⟩ rfl ?_)
 rintro m2 e3 w8 ⟨i2,hF,rfl,h⟩
 rcases m2 with _|m2
 ·cases hF
 refine X1 9 0 h rfl (qg rfl hF ?_ ?_)<;>intro hF
 ·refine X1 8 0 h rfl ?_
  obtain ⟨y7,hy7,hF,he7,b9,_,q7,cs8,hp7,hq7,rfl,hc13⟩:=s4.ix hF
  refine zxe hp7 hq7 he7 rfl (zc 0 (hc13.below h.below) rfl (zp2 rfl (zcB h hF qab rfl fun r5 w9 h hF=>X0 2 rfl (qg rfl hF ?_ ?_))))<;>intro hF
  ·refine X0 4 rfl ?_
   obtain rfl:=qb hF;replace hF:=hK3
   exact rb h hF rfl
  exact X0 7 rfl (rK ⟨_,hF,rfl,h⟩ rfl)
 refine qr rfl ?_
 obtain rfl:=qb hF;replace hF:=hK3
 exact X0 4 rfl (rb h hF rfl)
def qel (b:qf):Nat→Int→Option (Flow Bool Int)
 | 0,_=>none
 | n+1,i1 =>
  bif decide (i1<(b.Ac.length:Int)) then
   (idx b.Ac i1).bind fun y1 =>
   (qfQ n (⟨b.Ab.Aa,b.Ab.Am,b.Ab.Aj⟩:qd) i1).bind fun r1 =>
   (qky n y1 (r1.length:Int)).bind fun r2 =>
   bif (!r2) then some (.ret false) else
   qel b n (W64 (i1+1))
  else
   some (.nxt i1)
def qgv (n:Nat) (b:qf):Option Bool :=
 (
  (qiC n (⟨b.Av.Aq⟩:qp) (⟨b.Ab.Aa,b.Ab.Am,b.Ab.Aj⟩:qd)).bind fun r3 =>
  bif (!r3) then some true else
  some ((b.Ac.length:Int) != (b.Ab.Am.length:Int))).bind fun b1 =>
 bif b1 then some false else
 (qel b n 0).bind fun o=>match o with
 | .ret r=>some r
 | .nxt _ =>
  some true
theorem qlP {b:qf} (ha1:GoT.R w (old w) b cs1) {r:Bool} (hF:qgv n b=some r):RetV Tryz.prog 73 [GoT.v qf cs1] w r:=by
 obtain ⟨p1,k1,p2,k2,p3,k3,p4,k4,p5,k5,rfl,s1,s2,s3,s4,s5⟩:=qV ha1
 refine zV 39 Tryz.func73 rfl fun h=>zSR (qu h rfl rfl fun w1 bb1 h=>X0 4 rfl ?_)
 obtain ⟨KF1,hKF1,o2,hF,hK2⟩:=bindE hF
 refine qba (fun e w'=>∃ (b1:Bool),KF1 b1=some r∧e=[(1,.pointer (some ⟨bb1,0,none⟩)),(19,.bool b1)]∧SH w w' [Ch.box bb1 (qaI b p1 p2 p3 p4 p5 k1 k2 k3 k4 k5) 50]) ?_ ?_
 ·refine X2 5 0 0 h rfl (zcB h hF (qoi (qdG _ (h.oldS s1)) (qal _ (h.oldS s2) (h.oldS s3) (h.oldS s4))) rfl fun r3 w6 h hF=>zp2 rfl (qi (t:=10) hF rfl ?_ ?_))<;>intro hF
  ·refine X0 10 rfl ?_
   obtain rfl:=qb hF
   exact rG ⟨_,hK2,rfl,h⟩ rfl
  refine X2 18 0 0 h rfl ?_
  obtain rfl:=qb hF
  exact rG ⟨_,hK2,rfl,h⟩ rfl
 rintro e2 w7 ⟨b1,hF,rfl,h⟩
 subst hKF1
 refine qg rfl hF ?_ ?_<;>intro hF
 ·exact X0 4 rfl (rb h hF rfl)
 refine X0 6 rfl ?_
 obtain ⟨o1,hF,hK1⟩:=qc hF
 refine ql (rL (fun m e w'=>∃ (i1:Int),qel b m i1=some o1∧e=[(1,.pointer (some ⟨bb1,0,none⟩)),(3,.int .i64 i1)]∧SH w w' [Ch.box bb1 (qaI b p1 p2 p3 p4 p5 k1 k2 k3 k4 k5) 50]) n ⟨_,hF,rfl,h⟩ rfl ?_)
 rintro m1 e1 w2 ⟨i1,hF,rfl,h⟩
 rcases m1 with _|m1
 ·cases hF
 refine X1 9 0 h rfl (qg rfl hF ?_ ?_)<;>intro hF
 ·refine X0 4 rfl (rA [] [0] h rfl fun w3 h=>M1 7 [0,1,2] 0 (h.pick [0] rfl) rfl ?_)
  obtain ⟨y1,hy1,hF,he1,b2,_,q1,cs2,hp1,hq1,hr1,hc3⟩:=s5.ix hF
  obtain ⟨p6,k6,p7,k7,p8,k8,p9,k9,rfl,s6,s7,s8,s9⟩:=qaD hr1
  refine Ae 3 15 hp1 hq1 he1 (h.pick [0] rfl) rfl (Al 4 31 0 hc3 (h.pick [0] rfl) rfl (M1 255 [5,6,7] 0 (h.pick [0] rfl) rfl (Ao 8 511 rfl (zcL h hF (qim (qal _ (h.oldS s2) (h.oldS s3) (h.oldS s4))) rfl fun r1 w4 S1 p10 k10 h hF=>G0 1023 [9] (h.pick [1] rfl) rfl (Ao 10 2047 rfl (zcB h hF (qqa (qjE y1 (h.oldS s6) (h.oldS s7) (h.oldS s8) (h.oldS s9))) rfl fun r2 w5 h hF=>G0 4095 [11] (h.pick [1] rfl) rfl (Ad (qg rfl hF ?_ ?_))))))))<;>intro hF
  ·refine X0 4 rfl ?_
   obtain rfl:=qb hF;replace hF:=hK1
   exact rb h hF rfl
  refine X0 7 rfl ?_
  replace h:=h.pick [1] rfl
  exact rK ⟨_,hF,rfl,h⟩ rfl
 refine qr rfl ?_
 obtain rfl:=qb hF;replace hF:=hK1
 exact X0 4 rfl (rb h hF rfl)
def qaG (_:Nat) (x:Int) (low:Int) (high:Int):Option Bool :=
 bif decide (x ≥ low) then some (decide (x≤high)) else
 some false
theorem qau {x:Int} {low:Int} {high:Int}  {r:Bool} (hF:qaG n x low high=some r):RetV Tryz.prog 115 [.int .i64 x,.int .i64 low,.int .i64 high] w r:=by
 refine zV 15 Tryz.func115 rfl fun h=>X0 10 rfl (qi (t:=10) hF rfl ?_ ?_)<;>intro hF
 ·exact X0 9 rfl (rb h hF rfl)
 exact X0 6 rfl (rb h hF rfl)
def qh2 (_:Nat) (s cutset:ByteArray):Option ByteArray :=
 if s.size≤9223372036854775807∧cutset.size<4294967281∧cutset.data.toList.all (fun b=>decide (b.toNat<128))=true then some ⟨(Lib.trimS s.data.toList cutset.data.toList).toArray⟩ else none
theorem qo6 {s cutset:ByteArray} {r:ByteArray} (hF:qh2 n s cutset=some r):RetV Tryz.prog 177 [.string s,.string cutset] w r:=by
 unfold qh2 at hF
 split at hF
 ·rename_i hh
  obtain rfl:=qb hF
  refine (Tryz.strings_Trim_any s cutset w hh.1 hh.2.1 hh.2.2).mono ?_
  rintro e w' ⟨rfl,hB⟩
  exact ⟨_,rfl,hB,[.string _],rfl,qxs _ _⟩
 cases hF
def qf0 (_:Nat) (s:ByteArray) (c:(IntK .u8)):Option Int :=
 some (Lib.indexByte s.data.toList c.val.toNat.toUInt8)
theorem ql6 {s:ByteArray} {c:(IntK .u8)} {r:Int} (hF:qf0 n s c=some r):RetV Tryz.prog 178 [.string s,.int .u8 c.val] w r:=by
 obtain rfl:=qb hF
 refine (Tryz.strings_IndexByte s c.val w).mono ?_
 rintro e w' ⟨rfl,rfl⟩
 exact ⟨_,rfl,Below.refl _ _,[.int .i64 _],rfl,qvD _ _⟩
def qhq (n:Nat) (s:ByteArray):Option Bool :=
 (qaG n (s.size:Int) 1 8).bind fun r1 =>
 bif r1 then
  (qh2 n s (⟨#[97,98,99,100,101,102,103,104,105,106,107,108,109,110,111,112,113,114,115,116,117,118,119,120,121,122,48,49,50,51,52,53,54,55,56,57]⟩:ByteArray)).bind fun r2 =>
  bif (r2.toList==(⟨#[]⟩:ByteArray).toList) then
   (atS s 0).bind fun y1 =>
   (qf0 n (⟨#[97,98,99,100,101,102,103,104,105,106,107,108,109,110,111,112,113,114,115,116,117,118,119,120,121,122]⟩:ByteArray) (⟨y1⟩:IntK .u8)).bind fun r3 =>
   some (decide (r3 ≥ 0))
  else
   some false
 else
  some false
theorem qj0 {s:ByteArray}  {r:Bool} (hF:qhq n s=some r):RetV Tryz.prog 137 [.string s] w r:=by
 refine zV 17 Tryz.func137 rfl fun h=>X0 8 rfl (zcB h hF qau rfl fun r1 w1 h hF=>zp1 rfl (qi (t:=6) hF rfl ?_ ?_))<;>intro hF
 ·refine X0 3 rfl (zcS h hF qo6 rfl fun r2 w2 h hF=>X0 4 rfl (qi (t:=11) hF rfl ?_ ?_))<;>intro hF
  ·refine X0 3 rfl ?_
   obtain ⟨y1,hx1,hF⟩:=qc hF
   have g1:=qms hx1
   exact r_v (qmh qa g1 rfl rfl rfl rfl) rfl (X0 1 rfl (zcI h hF ql6 rfl fun r3 w3 h hF=>X0 5 rfl (rb h hF rfl)))
  exact X0 7 rfl (rb h hF rfl)
 exact X0 12 rfl (rb h hF rfl)
def qbP (s:(List ByteArray)) (v:ByteArray):Nat→Int→Option (Flow Int Int)
 | 0,_=>none
 | n+1,i1 =>
  bif decide (i1<(s.length:Int)) then
   (idx s i1).bind fun y1 =>
   bif (v.toList==y1.toList) then some (.ret i1) else
   qbP s v n (W64 (i1+1))
  else
   some (.nxt i1)
def qeS (n:Nat) (s:(List ByteArray)) (v:ByteArray):Option Int :=
 (qbP s v n 0).bind fun o=>match o with
 | .ret r=>some r
 | .nxt _ =>
  some (-1)
theorem qlB {s:(List ByteArray)} {v:ByteArray} (ha1:GoT.R w (old w) s cs1) {r:Int} (hF:qeS n s v=some r):RetV Tryz.prog 258 [GoT.v (List ByteArray) cs1,.string v] w r:=by
 obtain ⟨p1,k1,rfl,s1⟩:=ha1
 refine zV 19 Tryz.func258 rfl fun h=>X0 11 rfl ?_
 obtain ⟨o1,hF,hK1⟩:=qc hF
 refine ql (rL (fun m e w'=>∃ (i1:Int),qbP s v m i1=some o1∧e=[(0,.slice p1 s.length k1),(1,.string v),(7,.int .i64 (s.length:Int)),(8,.int .i64 i1)]∧SH w w' []) n ⟨_,hF,rfl,h⟩ rfl ?_)
 rintro m1 e1 w1 ⟨i1,hF,rfl,h⟩
 rcases m1 with _|m1
 ·cases hF
 refine X0 5 rfl (qg rfl hF ?_ ?_)<;>intro hF
 ·refine X0 13 rfl ?_
  obtain ⟨y1,hy1,hF,he1,b1,_,q1,cs2,hp1,hq1,rfl,hc2⟩:=s1.ix hF
  refine zxe hp1 hq1 he1 rfl (zc 0 (hc2.below h.below) rfl (X0 2 rfl (qg rfl hF ?_ ?_)))<;>intro hF
  ·refine X0 5 rfl ?_
   obtain rfl:=qb hF;replace hF:=hK1
   exact ri h hF rfl
  exact X0 6 rfl (rK ⟨_,hF,rfl,h⟩ rfl)
 refine qr rfl ?_
 obtain rfl:=qb hF;replace hF:=hK1
 exact X0 4 rfl (ri h hF rfl)
def qdC (n:Nat) (s:(List ByteArray)) (v:ByteArray):Option Bool :=
 (qeS n s v).bind fun r1 =>
 some (decide (r1 ≥ 0))
theorem qkg {s:(List ByteArray)} {v:ByteArray} (ha1:GoT.R w (old w) s cs1) {r:Bool} (hF:qdC n s v=some r):RetV Tryz.prog 238 [GoT.v (List ByteArray) cs1,.string v] w r:=by
 obtain ⟨p1,k1,rfl,s1⟩:=ha1
 exact zV 9 Tryz.func238 rfl fun h=>X0 8 rfl (zcI h hF (qlB ⟨_,_,rfl,(h.oldS s1)⟩) rfl fun r1 w1 h hF=>X0 3 rfl (rb h hF rfl))
def qdT (list:(List ByteArray)):Nat→Int→Option (Flow Bool Int)
 | 0,_=>none
 | n+1,i1 =>
  bif decide (i1<(list.length:Int)) then
   (idx list i1).bind fun y1 =>
   (qhq n y1).bind fun r1 =>
   bif (!r1) then some (.ret false) else
   (subS list 0 i1).bind fun x1 =>
   (qdC n x1 y1).bind fun r2 =>
   bif r2 then some (.ret false) else
   qdT list n (W64 (i1+1))
  else
   some (.nxt i1)
def qdH (n:Nat) (list:(List ByteArray)):Option Bool :=
 (qdT list n 0).bind fun o=>match o with
 | .ret r=>some r
 | .nxt _ =>
  some true
theorem qe1 {list:(List ByteArray)} (ha1:GoT.R w (old w) list cs1) {r:Bool} (hF:qdH n list=some r):RetV Tryz.prog 205 [GoT.v (List ByteArray) cs1] w r:=by
 obtain ⟨p1,k1,rfl,s1⟩:=ha1
 refine zV 23 Tryz.func205 rfl fun h=>X0 11 rfl ?_
 obtain ⟨o1,hF,hK1⟩:=qc hF
 refine ql (rL (fun m e w'=>∃ (i1:Int),qdT list m i1=some o1∧e=[(0,.slice p1 list.length k1),(5,.slice p1 list.length k1),(6,.int .i64 (list.length:Int)),(7,.int .i64 i1)]∧SH w w' []) n ⟨_,hF,rfl,h⟩ rfl ?_)
 rintro m1 e1 w1 ⟨i1,hF,rfl,h⟩
 rcases m1 with _|m1
 ·cases hF
 refine X0 5 rfl (qg rfl hF ?_ ?_)<;>intro hF
 ·refine X0 6 rfl ?_
  obtain ⟨y1,hy1,hF,he1,b1,_,q1,cs2,hp1,hq1,rfl,hc2⟩:=s1.ix hF
  refine zxe hp1 hq1 he1 rfl (zc 0 (hc2.below h.below) rfl (X0 6 rfl (zcB h hF qj0 rfl fun r1 w2 h hF=>zp2 rfl (qi (t:=15) hF rfl ?_ ?_))))<;>intro hF
  ·refine X0 7 rfl (qbW rfl rfl (X0 4 rfl ?_))
   obtain rfl:=qb hF;replace hF:=hK1
   exact rb h hF rfl
  refine X0 5 rfl ?_
  obtain ⟨x1,hx1,hF⟩:=qc hF
  obtain ⟨p2,k2,hp2,hk1,hl1,g1⟩:=quY (h.oldS s1) hx1
  refine r_v (qsv qa rfl rfl rfl (qu8 g1 rfl) hp2 hk1 hl1 rfl rfl rfl rfl) rfl ?_
  have s2:=qv3 s1 hx1 hp2 hk1
  refine X0 3 rfl (zcB h hF (qkg ⟨_,_,rfl,(h.oldS s2)⟩) rfl fun r2 w3 h hF=>X0 2 rfl (qg rfl hF ?_ ?_))<;>intro hF
  ·refine X0 4 rfl ?_
   obtain rfl:=qb hF;replace hF:=hK1
   exact rb h hF rfl
  exact X0 6 rfl (rK ⟨_,hF,rfl,h⟩ rfl)
 refine qr rfl ?_
 obtain rfl:=qb hF;replace hF:=hK1
 exact X0 4 rfl (rb h hF rfl)
def qcd (_:Nat) (list:(List qan)):Option Int :=
 some (list.length:Int)
theorem qhr {list:(List qan)} (ha1:GoT.R w (old w) list cs1) {r:Int} (hF:qcd n list=some r):RetV Tryz.prog 252 [GoT.v (List qan) cs1] w r:=by
 obtain ⟨p1,k1,rfl,s1⟩:=ha1
 exact zV 5 Tryz.func252 rfl fun h=>X0 10 rfl (ri h hF rfl)
def qcL (list:(List qan)):Nat→(List ByteArray)→Int→Option (Flow Bool ((List ByteArray) × Int))
 | 0,_,_=>none
 | n+1,x1,i1 =>
  bif decide (i1<(list.length:Int)) then
   (idx list i1).bind fun y1 =>
   (appS x1 ([y1.Ba]:List ByteArray)).bind fun x2 =>
   bif (i1==(W64 ((list.length:Int)-1))) then
    bif (y1.Bv != 2) then some (.ret false) else
    bif (y1.Bt != 0) then some (.ret false) else
    bif y1.Bq then some (.ret false) else
    qcL list n x2 (W64 (i1+1))
   else
    bif (y1.Bv != 1) then some (.ret false) else
    (qaG n y1.Bt 0 500).bind fun r1 =>
    bif (!r1) then some (.ret false) else
    qcL list n x2 (W64 (i1+1))
  else
   some (.nxt (x1,i1))
def qjy (n:Nat) (list:(List qan)):Option Bool :=
 (qcL list n ([]:List ByteArray) 0).bind fun o=>match o with
 | .ret r=>some r
 | .nxt (x1,_) =>
  (qcd n list).bind fun r2 =>
  (qaG n r2 2 5).bind fun r3 =>
  bif r3 then
   (qdH n x1).bind fun r4 =>
   some r4
  else
   some false
theorem qpf {list:(List qan)} (ha1:GoT.R w (old w) list cs1) {r:Bool} (hF:qjy n list=some r):RetV Tryz.prog 235 [GoT.v (List qan) cs1] w r:=by
 obtain ⟨p1,k1,rfl,s1⟩:=ha1
 refine zV 52 Tryz.func235 rfl fun h=>X0 15 rfl ?_
 replace h:=h.nil (α:=ByteArray)
 obtain ⟨o1,hF,hK1⟩:=qc hF
 refine ql (rL (fun m e w'=>∃ (S1:Nat→Prop) (p2:Option Addr) (ln1:Nat) (k2:Nat) (x1:(List ByteArray)) (i1:Int),qcL list m x1 i1=some o1∧e=[(0,.slice p1 list.length k1),(3,.slice p2 ln1 k2),(6,.slice p1 list.length k1),(7,.int .i64 (list.length:Int)),(8,.int .i64 i1)]∧SH w w' [Ch.own S1 (x1:List ByteArray) [.slice p2 ln1 k2]]) n ⟨_,_,_,_,_,_,hF,rfl,h⟩ rfl ?_)
 rintro m1 e1 w1 ⟨S1,p2,ln1,k2,x1,i1,hF,rfl,h⟩
 obtain rfl:=(h.sl 0 rfl).2
 rcases m1 with _|m1
 ·cases hF
 refine X0 5 rfl (qg rfl hF ?_ ?_)<;>intro hF
 ·refine X0 6 rfl ?_
  obtain ⟨y1,hy1,hF,he1,b1,_,q1,cs2,hp1,hq1,hr1,hc2⟩:=s1.ix hF
  obtain rfl:=qbf hr1
  refine zxe hp1 hq1 he1 rfl (zc 0 (hc2.below h.below) rfl (qm qa h rfl rfl rfl fun w2 bb1 h=>zp1 rfl (zs 0 h rfl fun w3 h=>X1 6 0 h rfl (qO qa [.tmp 15] _ ([y1.Ba]:List ByteArray) h rfl rfl rfl rfl rfl rfl rfl rfl rfl ⟨rfl,trivial⟩ rfl fun w4 p3 S2 h=>?_))))
  obtain ⟨x2,hx1,hF⟩:=qc hF
  obtain ⟨g1,hx1⟩:=qar hx1
  refine qcM qa 2 h rfl (h.sl 0 rfl).1 (h.sl 0 rfl).2 rfl rfl rfl rfl rfl rfl rfl rfl rfl g1 hx1 rfl fun w5 p4 k3 S3 h=>X0 10 rfl (qg rfl hF ?_ ?_)<;>intro hF
  ·refine X1 6 1 h rfl (qi (t:=26) hF rfl ?_ ?_)<;>intro hF
   ·refine X0 9 rfl (qbW rfl rfl (X0 4 rfl ?_))
    obtain rfl:=qb hF;replace hF:=hK1
    exact rb h hF rfl
   refine X1 8 1 h rfl (qi (t:=31) hF rfl ?_ ?_)<;>intro hF
   ·refine X0 4 rfl (qbW rfl rfl (X0 4 rfl ?_))
    obtain rfl:=qb hF;replace hF:=hK1
    exact rb h hF rfl
   refine X1 6 1 h rfl (qg rfl hF ?_ ?_)<;>intro hF
   ·refine X0 4 rfl ?_
    obtain rfl:=qb hF;replace hF:=hK1
    exact rb h hF rfl
   refine X0 6 rfl ?_
   replace h:=h.pick [2] rfl
   exact rK ⟨_,_,_,_,_,_,hF,rfl,h⟩ rfl
  refine X1 6 1 h rfl (qi (t:=38) hF rfl ?_ ?_)<;>intro hF
  ·refine X0 6 rfl (qbW rfl rfl (X0 4 rfl ?_))
   obtain rfl:=qb hF;replace hF:=hK1
   exact rb h hF rfl
  refine X1 5 1 h rfl (zcB h hF qau rfl fun r1 w6 h hF=>X0 4 rfl (qg rfl hF ?_ ?_))<;>intro hF
  ·refine X0 4 rfl ?_
   obtain rfl:=qb hF;replace hF:=hK1
   exact rb h hF rfl
  refine X0 6 rfl ?_
  replace h:=h.pick [2] rfl
  exact rK ⟨_,_,_,_,_,_,hF,rfl,h⟩ rfl
 refine qr rfl ?_
 obtain rfl:=qb hF;replace hF:=hK1
 refine X0 3 rfl (zcI h hF (qhr ⟨_,_,rfl,(h.oldS s1)⟩) rfl fun r2 w7 h hF=>zcB h hF qau rfl fun r3 w8 h hF=>zp1 rfl (qi (t:=48) hF rfl ?_ ?_))<;>intro hF
 ·exact X0 3 rfl (zcB h hF (qe1 (h.own 0 rfl)) rfl fun r4 w9 h hF=>X0 3 rfl (rb h hF rfl))
 exact X0 5 rfl (rb h hF rfl)
def qdS (n:Nat) (c:qB):Option Int :=
 (qcd n c.Bc).bind fun r1 =>
 some (W64 (r1-1))
theorem qgR {c:qB} (ha1:GoT.R w (old w) c cs1) {r:Int} (hF:qdS n c=some r):RetV Tryz.prog 256 [GoT.v qB cs1] w r:=by
 obtain ⟨p1,k1,p2,k2,p3,k3,rfl,s1,s2,s3⟩:=qZ ha1
 exact zV 7 Tryz.func256 rfl fun h=>zSR (qu h rfl rfl fun w1 bb1 h=>X1 6 0 h rfl (zcI h hF (qhr ⟨_,_,rfl,(h.oldS s1)⟩) rfl fun r1 w2 h hF=>X0 3 rfl (ri h hF rfl)))
def qjj (_:Nat) (kind:Int):Option Bool :=
 bif (kind==4) then some true else
 some (kind==5)
theorem qpd {kind:Int}  {r:Bool} (hF:qjj n kind=some r):RetV Tryz.prog 265 [.int .i64 kind] w r:=by
 refine zV 9 Tryz.func265 rfl fun h=>X0 9 rfl (qi (t:=5) hF rfl ?_ ?_)<;>intro hF
 ·exact X0 5 rfl (rb h hF rfl)
 exact X0 7 rfl (rb h hF rfl)
def qgG (n:Nat) (a_n:Int) (v0:Int) (v1:Int):Option Bool :=
 (qaG n a_n v0 v1).bind fun r1 =>
 some (!r1)
theorem qm5 {a_n:Int} {v0:Int} {v1:Int} {p1:Option Addr} (ha1:GoT.R w (old w) (some v0) [.pointer p1]) {p2:Option Addr} (ha2:GoT.R w (old w) (some v1) [.pointer p2]) {r:Bool} (hF:qgG n a_n v0 v1=some r):RetV Tryz.prog 114 [.int .i64 a_n,.pointer p1,.pointer p2] w r:=by
 obtain ⟨b1,o_1,cs1,rfl,-,hr1,hc1⟩:=PtR.get ha1 rfl
 obtain rfl:=hr1
 obtain ⟨b2,o_2,cs2,rfl,-,hr2,hc2⟩:=PtR.get ha2 rfl
 obtain rfl:=hr2
 exact zV 10 Tryz.func114 rfl fun h=>X0 7 rfl (zc 0 (hc1.below h.below) rfl (zc 0 (hc2.below h.below) rfl (zcB h hF qau rfl fun r1 w1 h hF=>X0 3 rfl (rb h hF rfl))))
def qX (s:(List Int)) (f_0:Int) (f_1:Int):Nat→Int→Option (Flow Int Int)
 | 0,_=>none
 | n+1,i1 =>
  bif decide (i1<(s.length:Int)) then
   (idx s i1).bind fun y1 =>
   (qgG n y1 f_0 f_1).bind fun r1 =>
   bif r1 then some (.ret i1) else
   qX s f_0 f_1 n (W64 (i1+1))
  else
   some (.nxt i1)
def qaJ (n:Nat) (s:(List Int)) (f_0:Int) (f_1:Int):Option Int :=
 (qX s f_0 f_1 n 0).bind fun o=>match o with
 | .ret r=>some r
 | .nxt _ =>
  some (-1)
theorem qfi {s:(List Int)} {f_0:Int} {f_1:Int} (ha1:GoT.R w (old w) s cs1) {p2:Option Addr} (ha2:GoT.R w (old w) (some f_0) [.pointer p2]) {p3:Option Addr} (ha3:GoT.R w (old w) (some f_1) [.pointer p3]) {r:Int} (hF:qaJ n s f_0 f_1=some r):RetV Tryz.prog 160 [GoT.v (List Int) cs1,.func (.func 114) #[] #[.pointer p2,.pointer p3]] w r:=by
 obtain ⟨p1,k1,rfl,s1⟩:=ha1
 obtain ⟨b1,o_1,cs2,rfl,-,hr1,hc1⟩:=PtR.get ha2 rfl
 obtain rfl:=hr1
 obtain ⟨b2,o_2,cs3,rfl,-,hr2,hc2⟩:=PtR.get ha3 rfl
 obtain rfl:=hr2
 refine zV 19 Tryz.func160 rfl fun h=>X0 11 rfl ?_
 obtain ⟨o1,hF,hK1⟩:=qc hF
 refine ql (rL (fun m e w'=>∃ (i1:Int),qX s f_0 f_1 m i1=some o1∧e=[(0,.slice p1 s.length k1),(1,.func (.func 114) #[] #[.pointer (some ⟨b1,o_1,none⟩),.pointer (some ⟨b2,o_2,none⟩)]),(7,.int .i64 (s.length:Int)),(8,.int .i64 i1)]∧SH w w' []) n ⟨_,hF,rfl,h⟩ rfl ?_)
 rintro m1 e1 w1 ⟨i1,hF,rfl,h⟩
 rcases m1 with _|m1
 ·cases hF
 refine X0 5 rfl (qg rfl hF ?_ ?_)<;>intro hF
 ·refine X0 13 rfl ?_
  obtain ⟨y1,hy1,hF,he1,b3,_,q1,cs4,hp1,hq1,rfl,hc4⟩:=s1.ix hF
  refine zxe hp1 hq1 he1 rfl (zc 0 (hc4.below h.below) rfl (zcB h hF (qm5 (h.old ha2) (h.old ha3)) rfl fun r1 w2 h hF=>qcs (qg rfl hF ?_ ?_)))<;>intro hF
  ·refine X0 5 rfl ?_
   obtain rfl:=qb hF;replace hF:=hK1
   exact ri h hF rfl
  exact X0 6 rfl (rK ⟨_,hF,rfl,h⟩ rfl)
 refine qr rfl ?_
 obtain rfl:=qb hF;replace hF:=hK1
 exact X0 4 rfl (ri h hF rfl)
def qbi (n:Nat) (s:(List Int)) (f_0:Int) (f_1:Int):Option Bool :=
 (qaJ n s f_0 f_1).bind fun r1 =>
 some (decide (r1 ≥ 0))
theorem qeR {s:(List Int)} {f_0:Int} {f_1:Int} (ha1:GoT.R w (old w) s cs1) {p2:Option Addr} (ha2:GoT.R w (old w) (some f_0) [.pointer p2]) {p3:Option Addr} (ha3:GoT.R w (old w) (some f_1) [.pointer p3]) {r:Bool} (hF:qbi n s f_0 f_1=some r):RetV Tryz.prog 111 [GoT.v (List Int) cs1,.func (.func 114) #[] #[.pointer p2,.pointer p3]] w r:=by
 obtain ⟨p1,k1,rfl,s1⟩:=ha1
 obtain ⟨b1,o_1,cs2,rfl,-,hr1,hc1⟩:=PtR.get ha2 rfl
 obtain rfl:=hr1
 obtain ⟨b2,o_2,cs3,rfl,-,hr2,hc2⟩:=PtR.get ha3 rfl
 obtain rfl:=hr2
 exact zV 9 Tryz.func111 rfl fun h=>X0 8 rfl (zcI h hF (qfi ⟨_,_,rfl,(h.oldS s1)⟩ (h.old ha2) (h.old ha3)) rfl fun r1 w1 h hF=>X0 3 rfl (rb h hF rfl))
def qbF (n:Nat) (list:(List Int)) (low:Int) (high:Int):Option Bool :=
 (qbi n list low high).bind fun r1 =>
 some (!r1)
theorem qbY {list:(List Int)} {low:Int} {high:Int} (ha1:GoT.R w (old w) list cs1) {r:Bool} (hF:qbF n list low high=some r):RetV Tryz.prog 62 [GoT.v (List Int) cs1,.int .i64 low,.int .i64 high] w r:=by
 obtain ⟨p1,k1,rfl,s1⟩:=ha1
 exact zV 11 Tryz.func62 rfl fun h=>zSR (qu h rfl rfl fun w1 bb1 h=>qu h rfl rfl fun w2 bb2 h=>X0 6 rfl (zcB h hF (qeR ⟨_,_,rfl,(h.oldS s1)⟩ (qhQ (x:=low) 1 h rfl rfl) (qhQ (x:=high) 0 h rfl rfl)) rfl fun r1 w3 h hF=>X0 3 rfl (rb h hF rfl)))
def qa9 (_:Nat) (list:(List Int)):Option Int :=
 some (list.length:Int)
theorem qce {list:(List Int)} (ha1:GoT.R w (old w) list cs1) {r:Int} (hF:qa9 n list=some r):RetV Tryz.prog 140 [GoT.v (List Int) cs1] w r:=by
 obtain ⟨p1,k1,rfl,s1⟩:=ha1
 exact zV 5 Tryz.func140 rfl fun h=>X0 10 rfl (ri h hF rfl)
def qbd (list:(List Int)):Nat→Int→Option (Flow Bool Int)
 | 0,_=>none
 | n+1,i1 =>
  bif decide (i1<(list.length:Int)) then
   (idx list (W64 (i1-1))).bind fun y1 =>
   (idx list i1).bind fun y2 =>
   bif decide (y1 ≥ y2) then some (.ret false) else
   qbd list n (W64 (i1+1))
  else
   some (.nxt i1)
def qeI (n:Nat) (list:(List Int)):Option Bool :=
 (qbd list n 1).bind fun o=>match o with
 | .ret r=>some r
 | .nxt _ =>
  some true
theorem qiY {list:(List Int)} (ha1:GoT.R w (old w) list cs1) {r:Bool} (hF:qeI n list=some r):RetV Tryz.prog 147 [GoT.v (List Int) cs1] w r:=by
 obtain ⟨p1,k1,rfl,s1⟩:=ha1
 refine zV 20 Tryz.func147 rfl fun h=>X0 9 rfl ?_
 obtain ⟨o1,hF,hK1⟩:=qc hF
 refine ql (rL (fun m e w'=>∃ (i1:Int),qbd list m i1=some o1∧e=[(0,.slice p1 list.length k1),(3,.int .i64 i1)]∧SH w w' []) n ⟨_,hF,rfl,h⟩ rfl ?_)
 rintro m1 e1 w1 ⟨i1,hF,rfl,h⟩
 rcases m1 with _|m1
 ·cases hF
 refine X0 8 rfl (qg rfl hF ?_ ?_)<;>intro hF
 ·refine X0 4 rfl (rD (zd3 rfl ?_))
  obtain ⟨y1,hy1,hF,he1,b1,_,q1,cs2,hp1,hq1,rfl,hc2⟩:=s1.ix hF
  refine zdxe hp1 hq1 he1 rfl (zdc 0 (hc2.below h.below) rfl (zd2 rfl ?_))
  obtain ⟨y2,hy2,hF,he2,b2,_,q2,cs3,hp2,hq2,rfl,hc3⟩:=s1.ix hF
  refine zdxe hp2 hq2 he2 rfl (zdc 0 (hc3.below h.below) rfl (zd1 rfl (dN h fun w2 h=>qg rfl hF ?_ ?_)))<;>intro hF
  ·refine X0 4 rfl ?_
   obtain rfl:=qb hF;replace hF:=hK1
   exact rb h hF rfl
  exact X0 7 rfl (rK ⟨_,hF,rfl,h⟩ rfl)
 refine qr rfl ?_
 obtain rfl:=qb hF;replace hF:=hK1
 exact X0 4 rfl (rb h hF rfl)
def qiU (n:Nat) (list:(List Int)):Option Bool :=
 (qa9 n list).bind fun r1 =>
 (qaG n r1 1 4).bind fun r2 =>
 bif r2 then
  (qbF n list 0 100000).bind fun r3 =>
  bif r3 then
   (qeI n list).bind fun r4 =>
   some r4
  else
   some false
 else
  some false
theorem qma {list:(List Int)} (ha1:GoT.R w (old w) list cs1) {r:Bool} (hF:qiU n list=some r):RetV Tryz.prog 286 [GoT.v (List Int) cs1] w r:=by
 obtain ⟨p1,k1,rfl,s1⟩:=ha1
 refine zV 14 Tryz.func286 rfl fun h=>X0 7 rfl (zcI h hF (qce ⟨_,_,rfl,(h.oldS s1)⟩) rfl fun r1 w1 h hF=>zcB h hF qau rfl fun r2 w2 h hF=>zp1 rfl (qi (t:=6) hF rfl ?_ ?_))<;>intro hF
 ·refine X0 3 rfl (zcB h hF (qbY ⟨_,_,rfl,(h.oldS s1)⟩) rfl fun r3 w3 h hF=>zp2 rfl (qi (t:=10) hF rfl ?_ ?_))<;>intro hF
  ·exact X0 3 rfl (zcB h hF (qiY ⟨_,_,rfl,(h.oldS s1)⟩) rfl fun r4 w4 h hF=>X0 3 rfl (rb h hF rfl))
  exact X0 5 rfl (rb h hF rfl)
 exact X0 9 rfl (rb h hF rfl)
def qjr (n:Nat) (t:qv):Option Bool :=
 (qiU n t.Bm).bind fun r1 =>
 bif r1 then
  (qiU n t.Bj).bind fun r2 =>
  bif r2 then
   bif ((t.Bi.length:Int)==(W64 ((t.Bm.length:Int)*(t.Bj.length:Int)))) then
    (qbF n t.Bi (-1000000) 1000000).bind fun r3 =>
    some r3
   else
    some false
  else
   some false
 else
  some false
theorem qoX {t:qv} (ha1:GoT.R w (old w) t cs1) {r:Bool} (hF:qjr n t=some r):RetV Tryz.prog 279 [GoT.v qv cs1] w r:=by
 obtain ⟨p1,k1,p2,k2,p3,k3,rfl,s1,s2,s3⟩:=qaA ha1
 refine zV 29 Tryz.func279 rfl fun h=>zSR (qu h rfl rfl fun w1 bb1 h=>X1 6 0 h rfl (zcB h hF (qma ⟨_,_,rfl,(h.oldS s1)⟩) rfl fun r1 w2 h hF=>zp1 rfl (qi (t:=6) hF rfl ?_ ?_)))<;>intro hF
 ·refine X1 5 0 h rfl (zcB h hF (qma ⟨_,_,rfl,(h.oldS s2)⟩) rfl fun r2 w3 h hF=>zp2 rfl (qi (t:=11) hF rfl ?_ ?_))<;>intro hF
  ·refine X3 24 0 0 0 h rfl (qi (t:=24) hF rfl ?_ ?_)<;>intro hF
   ·exact X1 5 0 h rfl (zcB h hF (qbY ⟨_,_,rfl,(h.oldS s3)⟩) rfl fun r3 w4 h hF=>X0 3 rfl (rb h hF rfl))
   exact X0 6 rfl (rb h hF rfl)
  exact X0 19 rfl (rb h hF rfl)
 exact X0 24 rfl (rb h hF rfl)
def qcB (x:(List Int)):Nat→Int→Int→Option (Int × Int)
 | 0,_,_=>none
 | n+1,i1,i2 =>
  bif decide (i2<(x.length:Int)) then
   (idx x i2).bind fun y2 =>
   qcB x n (if y2<i1 then y2 else i1) (W64 (i2+1))
  else
   some (i1,i2)
def qgt (n:Nat) (x:(List Int)):Option Int :=
 (
  bif decide ((x.length:Int)<1) then none else
  some ()).bind fun _ =>
 (idx x 0).bind fun y1 =>
 (qcB x n y1 1).bind fun o=>match o with
 | (i1,_) =>
  some i1
theorem qm7 {x:(List Int)} (ha1:GoT.R w (old w) x cs1) {r:Int} (hF:qgt n x=some r):RetV Tryz.prog 280 [GoT.v (List Int) cs1] w r:=by
 obtain ⟨p1,k1,rfl,s1⟩:=ha1
 refine zV 25 Tryz.func280 rfl fun h=>X0 11 rfl ?_
 obtain ⟨KF1,hKF1,o2,hF,hK2⟩:=bindE hF
 refine qba (fun e w'=>KF1 ()=some r∧e=[(0,.slice p1 x.length k1)]∧SH w w' []) ?_ ?_
 ·refine qg rfl hF ?_ ?_<;>intro hF
  ·refine qkX ?_
   cases hF
  refine qgm ?_
  obtain rfl:=qb hF
  exact rG ⟨hK2,rfl,h⟩ rfl
 rintro e2 w2 ⟨hF,rfl,h⟩
 subst hKF1
 refine X0 3 rfl ?_
 obtain ⟨y1,hy1,hF,he1,b1,_,q1,cs2,hp1,hq1,rfl,hc1⟩:=s1.ix hF
 refine zxe hp1 hq1 he1 rfl (zc 0 (hc1.below h.below) rfl (X0 7 rfl ?_))
 obtain ⟨o1,hF,hK1⟩:=qc hF
 refine ql (rL (fun m e w'=>∃ (i1:Int) (i2:Int),qcB x m i1 i2=some o1∧e=[(0,.slice p1 x.length k1),(3,.int .i64 i1),(4,.int .i64 i2)]∧SH w w' []) n ⟨_,_,hF,rfl,h⟩ rfl ?_)
 rintro m1 e1 w1 ⟨i1,i2,hF,rfl,h⟩
 rcases m1 with _|m1
 ·cases hF
 refine X0 8 rfl (qg rfl hF ?_ ?_)<;>intro hF
 ·refine X0 7 rfl ?_
  obtain ⟨y2,hy2,hF,he2,b2,_,q2,cs3,hp2,hq2,rfl,hc3⟩:=s1.ix hF
  exact zxe hp2 hq2 he2 rfl (zc 0 (hc3.below h.below) rfl (X0 9 rfl (rK ⟨_,_,hF,rfl,h⟩ rfl)))
 refine qr rfl ?_
 obtain rfl:=qb hF;replace hF:=hK1
 exact X0 5 rfl (ri h hF rfl)
def qgs (n:Nat) (t:qv) (v0:Bool):Option Bool :=
 (qjr n t).bind fun r1 =>
 bif (!r1) then some true else
 bif v0 then
  (qgt n t.Bi).bind fun r2 =>
  some (decide (r2<0))
 else
  some false
theorem qmW {t:qv} {v0:Bool} (ha1:GoT.R w (old w) t cs1) {p4:Option Addr} (ha2:GoT.R w (old w) (some v0) [.pointer p4]) {r:Bool} (hF:qgs n t v0=some r):RetV Tryz.prog 278 [GoT.v qv cs1,.pointer p4] w r:=by
 obtain ⟨p1,k1,p2,k2,p3,k3,rfl,s1,s2,s3⟩:=qaA ha1
 obtain ⟨b1,o_1,cs2,rfl,-,hr1,hc1⟩:=PtR.get ha2 rfl
 obtain rfl:=hr1
 refine zV 16 Tryz.func278 rfl fun h=>zSR (qu h rfl rfl fun w1 bb1 h=>X1 5 0 h rfl (zcB h hF (qoX (h.old ha1)) rfl fun r1 w2 h hF=>zp2 rfl (qi (t:=7) hF rfl ?_ ?_)))<;>intro hF
 ·exact X0 10 rfl (rb h hF rfl)
 refine X0 1 rfl (zc 0 (hc1.below h.below) rfl (X0 2 rfl (qi (t:=9) hF rfl ?_ ?_)))<;>intro hF
 ·exact X1 5 0 h rfl (zcI h hF (qm7 ⟨_,_,rfl,(h.oldS s3)⟩) rfl fun r2 w3 h hF=>X0 7 rfl (rb h hF rfl))
 exact X0 9 rfl (rb h hF rfl)
def qM (s:(List qv)) (f_0:Bool):Nat→Int→Option (Flow Int Int)
 | 0,_=>none
 | n+1,i1 =>
  bif decide (i1<(s.length:Int)) then
   (idx s i1).bind fun y1 =>
   (qgs n y1 f_0).bind fun r1 =>
   bif r1 then some (.ret i1) else
   qM s f_0 n (W64 (i1+1))
  else
   some (.nxt i1)
def qaw (n:Nat) (s:(List qv)) (f_0:Bool):Option Int :=
 (qM s f_0 n 0).bind fun o=>match o with
 | .ret r=>some r
 | .nxt _ =>
  some (-1)
theorem qeA {s:(List qv)} {f_0:Bool} (ha1:GoT.R w (old w) s cs1) {p2:Option Addr} (ha2:GoT.R w (old w) (some f_0) [.pointer p2]) {r:Int} (hF:qaw n s f_0=some r):RetV Tryz.prog 285 [GoT.v (List qv) cs1,.func (.func 278) #[] #[.pointer p2]] w r:=by
 obtain ⟨p1,k1,rfl,s1⟩:=ha1
 obtain ⟨b1,o_1,cs2,rfl,-,hr1,hc1⟩:=PtR.get ha2 rfl
 obtain rfl:=hr1
 refine zV 19 Tryz.func285 rfl fun h=>X0 11 rfl ?_
 obtain ⟨o1,hF,hK1⟩:=qc hF
 refine ql (rL (fun m e w'=>∃ (i1:Int),qM s f_0 m i1=some o1∧e=[(0,.slice p1 s.length k1),(1,.func (.func 278) #[] #[.pointer (some ⟨b1,o_1,none⟩)]),(7,.int .i64 (s.length:Int)),(8,.int .i64 i1)]∧SH w w' []) n ⟨_,hF,rfl,h⟩ rfl ?_)
 rintro m1 e1 w1 ⟨i1,hF,rfl,h⟩
 rcases m1 with _|m1
 ·cases hF
 refine X0 5 rfl (qg rfl hF ?_ ?_)<;>intro hF
 ·refine X0 13 rfl ?_
  obtain ⟨y1,hy1,hF,he1,b2,_,q1,cs3,hp1,hq1,hr2,hc3⟩:=s1.ix hF
  obtain ⟨p3,k2,p4,k3,p5,k4,rfl,s2,s3,s4⟩:=qaA hr2
  refine zxe hp1 hq1 he1 rfl (zc 0 (hc3.below h.below) rfl (zcB h hF (qmW (qeO y1 (h.oldS s2) (h.oldS s3) (h.oldS s4)) (h.old ha2)) rfl fun r1 w2 h hF=>qcs (qg rfl hF ?_ ?_)))<;>intro hF
  ·refine X0 5 rfl ?_
   obtain rfl:=qb hF;replace hF:=hK1
   exact ri h hF rfl
  exact X0 6 rfl (rK ⟨_,hF,rfl,h⟩ rfl)
 refine qr rfl ?_
 obtain rfl:=qb hF;replace hF:=hK1
 exact X0 4 rfl (ri h hF rfl)
def qaR (n:Nat) (s:(List qv)) (f_0:Bool):Option Bool :=
 (qaw n s f_0).bind fun r1 =>
 some (decide (r1 ≥ 0))
theorem qd2 {s:(List qv)} {f_0:Bool} (ha1:GoT.R w (old w) s cs1) {p2:Option Addr} (ha2:GoT.R w (old w) (some f_0) [.pointer p2]) {r:Bool} (hF:qaR n s f_0=some r):RetV Tryz.prog 277 [GoT.v (List qv) cs1,.func (.func 278) #[] #[.pointer p2]] w r:=by
 obtain ⟨p1,k1,rfl,s1⟩:=ha1
 obtain ⟨b1,o_1,cs2,rfl,-,hr1,hc1⟩:=PtR.get ha2 rfl
 obtain rfl:=hr1
 exact zV 9 Tryz.func277 rfl fun h=>X0 8 rfl (zcI h hF (qeA ⟨_,_,rfl,(h.oldS s1)⟩ (h.old ha2)) rfl fun r1 w1 h hF=>X0 3 rfl (rb h hF rfl))
def qfa (n:Nat) (list:(List qv)) (positive:Bool):Option Bool :=
 bif ((list.length:Int)==2) then
  (qaR n list positive).bind fun r1 =>
  some (!r1)
 else
  some false
theorem qhu {list:(List qv)} {positive:Bool} (ha1:GoT.R w (old w) list cs1) {r:Bool} (hF:qfa n list positive=some r):RetV Tryz.prog 266 [GoT.v (List qv) cs1,.bool positive] w r:=by
 obtain ⟨p1,k1,rfl,s1⟩:=ha1
 refine zV 14 Tryz.func266 rfl fun h=>zSR (qu h rfl rfl fun w1 bb1 h=>X0 8 rfl (qi (t:=8) hF rfl ?_ ?_))<;>intro hF
 ·exact X0 5 rfl (zcB h hF (qd2 ⟨_,_,rfl,(h.oldS s1)⟩ (qhQ (x:=positive) 0 h rfl rfl)) rfl fun r1 w2 h hF=>X0 5 rfl (rb h hF rfl))
 exact X0 7 rfl (rb h hF rfl)
def qhy (_:Nat) (p:qan):Option Bool :=
 some p.Bq
theorem qmv {p:qan} (ha1:GoT.R w (old w) p cs1) {r:Bool} (hF:qhy n p=some r):RetV Tryz.prog 282 [GoT.v qan cs1] w r:=by
 obtain rfl:=qbf ha1
 exact zV 5 Tryz.func282 rfl fun h=>zSR (qu h rfl rfl fun w1 bb1 h=>X1 8 0 h rfl (rb h hF rfl))
def qR (s:(List qan)):Nat→Int→Option (Flow Int Int)
 | 0,_=>none
 | n+1,i1 =>
  bif decide (i1<(s.length:Int)) then
   (idx s i1).bind fun y1 =>
   (qhy n y1).bind fun r1 =>
   bif r1 then some (.ret i1) else
   qR s n (W64 (i1+1))
  else
   some (.nxt i1)
def qbc (n:Nat) (s:(List qan)):Option Int :=
 (qR s n 0).bind fun o=>match o with
 | .ret r=>some r
 | .nxt _ =>
  some (-1)
theorem qeP {s:(List qan)} (ha1:GoT.R w (old w) s cs1) {r:Int} (hF:qbc n s=some r):RetV Tryz.prog 281 [GoT.v (List qan) cs1,.func (.func 282) #[] #[]] w r:=by
 obtain ⟨p1,k1,rfl,s1⟩:=ha1
 refine zV 19 Tryz.func281 rfl fun h=>X0 11 rfl ?_
 obtain ⟨o1,hF,hK1⟩:=qc hF
 refine ql (rL (fun m e w'=>∃ (i1:Int),qR s m i1=some o1∧e=[(0,.slice p1 s.length k1),(1,.func (.func 282) #[] #[]),(7,.int .i64 (s.length:Int)),(8,.int .i64 i1)]∧SH w w' []) n ⟨_,hF,rfl,h⟩ rfl ?_)
 rintro m1 e1 w1 ⟨i1,hF,rfl,h⟩
 rcases m1 with _|m1
 ·cases hF
 refine X0 5 rfl (qg rfl hF ?_ ?_)<;>intro hF
 ·refine X0 13 rfl ?_
  obtain ⟨y1,hy1,hF,he1,b1,_,q1,cs2,hp1,hq1,hr1,hc2⟩:=s1.ix hF
  obtain rfl:=qbf hr1
  refine zxe hp1 hq1 he1 rfl (zc 0 (hc2.below h.below) rfl (zcB h hF (qmv (qiW y1)) rfl fun r1 w2 h hF=>qcs (qg rfl hF ?_ ?_)))<;>intro hF
  ·refine X0 5 rfl ?_
   obtain rfl:=qb hF;replace hF:=hK1
   exact ri h hF rfl
  exact X0 6 rfl (rK ⟨_,hF,rfl,h⟩ rfl)
 refine qr rfl ?_
 obtain rfl:=qb hF;replace hF:=hK1
 exact X0 4 rfl (ri h hF rfl)
def qhc (n:Nat) (c:qB):Option Int :=
 (qbc n c.Bc).bind fun r1 =>
 some r1
theorem qnb {c:qB} (ha1:GoT.R w (old w) c cs1) {r:Int} (hF:qhc n c=some r):RetV Tryz.prog 267 [GoT.v qB cs1] w r:=by
 obtain ⟨p1,k1,p2,k2,p3,k3,rfl,s1,s2,s3⟩:=qZ ha1
 exact zV 6 Tryz.func267 rfl fun h=>zSR (qu h rfl rfl fun w1 bb1 h=>X1 6 0 h rfl (zcI h hF (qeP ⟨_,_,rfl,(h.oldS s1)⟩) rfl fun r1 w2 h hF=>X0 2 rfl (ri h hF rfl)))
def qfZ (n:Nat) (c:qB) (pin:Int):Option Bool :=
 (qdS n c).bind fun r1 =>
 (qaG n pin 0 (W64 (r1-1))).bind fun r2 =>
 some r2
theorem qiK {c:qB} {pin:Int} (ha1:GoT.R w (old w) c cs1) {r:Bool} (hF:qfZ n c pin=some r):RetV Tryz.prog 268 [GoT.v qB cs1,.int .i64 pin] w r:=by
 obtain ⟨p1,k1,p2,k2,p3,k3,rfl,s1,s2,s3⟩:=qZ ha1
 exact zV 10 Tryz.func268 rfl fun h=>zSR (qu h rfl rfl fun w1 bb1 h=>X1 6 0 h rfl (zcI h hF (qgR (h.old ha1)) rfl fun r1 w2 h hF=>zp1 rfl (zcB h hF qau rfl fun r2 w3 h hF=>X0 2 rfl (rb h hF rfl))))
end Go.Fw


namespace Go.Fw
open Go Go.Proofs
open Go.RowKit (Below)
set_option maxRecDepth 100000
set_option maxHeartbeats 1600000
variable {n:Nat} {w:World} {cs1 cs2 cs3 cs4 cs5 cs6 cs7 cs8 cs9:List Value}
def qhe (n:Nat) (a_0:qB) (a_1:qP):Option Bool :=
 (qjj n a_1.Be).bind fun r1 =>
 bif r1 then
  (
   bif (a_1.Bn==0) then
    bif ((a_1.Bd.length:Int)==0) then
     (qfa n a_1.Bp false).bind fun r2 =>
     bif r2 then
      (qhc n a_0).bind fun r3 =>
      bif (a_1.Bk==r3) then
       bif decide (a_1.Bk ≥ 0) then
        (qfZ n a_0 a_1.To).bind fun r4 =>
        bif r4 then some (a_1.To != a_1.Bk) else
        some false
       else
        some false
      else
       some false
     else
      some false
    else
     some false
   else
    some false).bind fun b1 =>
  some b1
 else
  (
   (qfa n a_1.Bp true).bind fun r6 =>
   bif (!r6) then some true else
   (qfa n a_1.Bd true).bind fun r7 =>
   bif (!r7) then some true else
   (qdS n a_0).bind fun r8 =>
   bif (a_1.To != r8) then some true else
   (qfZ n a_0 a_1.Bk).bind fun r9 =>
   some (!r9)).bind fun b2 =>
  bif b2 then some false else
  bif (a_1.Be==1) then
   (idx a_0.Bc a_1.Bk).bind fun y1 =>
   bif (!y1.Bq) then
    (qaG n a_1.Bn 1 3).bind fun r5 =>
    some r5
   else
    some false
  else
   (
    bif (a_1.Be==2) then some (a_1.Be==2) else
    some (a_1.Be==3)).bind fun b4 =>
   bif b4 then
    (idx a_0.Bc a_1.Bk).bind fun y2 =>
    bif y2.Bq then some (a_1.Bn==0) else
    some false
   else
    some false
theorem qno {a_0:qB} {a_1:qP} (ha1:GoT.R w (old w) a_0 cs1) (ha2:GoT.R w (old w) a_1 cs2) {r:Bool} (hF:qhe n a_0 a_1=some r):RetV Tryz.prog 253 [GoT.v qB cs1,GoT.v qP cs2] w r:=by
 obtain ⟨p1,k1,p2,k2,p3,k3,rfl,s1,s2,s3⟩:=qZ ha1
 obtain ⟨p4,k4,p5,k5,rfl,s4,s5⟩:=qac ha2
 refine zV 103 Tryz.func253 rfl fun h=>zSR (qu h rfl rfl fun w1 bb1 h=>qu h rfl rfl fun w2 bb2 h=>X1 7 0 h rfl (zcB h hF qpd rfl fun r1 w3 h hF=>qcs (qg rfl hF ?_ ?_)))<;>intro hF
 ·refine qcE ?_
  obtain ⟨KF1,hKF1,o1,hF,hK1⟩:=bindE hF
  refine qba (fun e w'=>∃ (b1:Bool),KF1 b1=some r∧e=[(4,.bool b1)]∧SH w w' []) ?_ ?_
  ·refine rD (Y1 2 0 h rfl ?_)
   refine zd2 rfl (qaM (t:=11) hF rfl ?_ ?_)<;>intro hF
   ·refine Y1 4 0 h rfl ?_
    refine Y0 6 rfl (qaM (t:=17) hF rfl ?_ ?_)<;>intro hF
    ·refine Y1 4 0 h rfl ?_
     refine Y0 1 rfl ?_
     obtain ⟨r2,hr2,hF⟩:=qc hF
     refine qbb r2 (vsB _) (cB 266 rfl) (fun _ hb=>qhu ⟨_,_,rfl,((h.ext hb).oldS s4)⟩ hr2) rfl rfl rfl rfl (zd2 rfl (qaM (t:=22) hF rfl ?_ ?_))<;>intro hF
     ·refine Y1 4 0 h rfl ?_
      refine Y1 2 1 h rfl ?_
      refine Y0 1 rfl ?_
      obtain ⟨r3,hr3,hF⟩:=qc hF
      refine qbb r3 (vsI _) (cB 267 rfl) (fun _ hb=>qnb ((h.ext hb).old ha1) hr3) rfl rfl rfl rfl (Y0 4 rfl (qaM (t:=29) hF rfl ?_ ?_))<;>intro hF
      ·refine Y1 4 0 h rfl ?_
       refine Y0 4 rfl (qaM (t:=34) hF rfl ?_ ?_)<;>intro hF
       ·refine Y1 2 1 h rfl ?_
        refine Y1 4 0 h rfl ?_
        refine Y0 1 rfl ?_
        obtain ⟨r4,hr4,hF⟩:=qc hF
        refine qbb r4 (vsB _) (cB 268 rfl) (fun _ hb=>qiK ((h.ext hb).old ha1) hr4) rfl rfl rfl rfl (zd2 rfl (qaM (t:=40) hF rfl ?_ ?_))<;>intro hF
        ·refine Y1 4 0 h rfl ?_
         refine Y1 4 0 h rfl ?_
         refine Y0 4 rfl (dN h fun w4 h=>?_)
         replace h:=h.pick [] rfl
         obtain rfl:=qb hF
         exact rG ⟨_,hK1,rfl,h⟩ rfl
        refine Y0 7 rfl (dN h fun w5 h=>?_)
        replace h:=h.pick [] rfl
        obtain rfl:=qb hF
        exact rG ⟨_,hK1,rfl,h⟩ rfl
       refine Y0 13 rfl (dN h fun w6 h=>?_)
       replace h:=h.pick [] rfl
       obtain rfl:=qb hF
       exact rG ⟨_,hK1,rfl,h⟩ rfl
      refine Y0 18 rfl (dN h fun w7 h=>?_)
      replace h:=h.pick [] rfl
      obtain rfl:=qb hF
      exact rG ⟨_,hK1,rfl,h⟩ rfl
     refine Y0 25 rfl (dN h fun w8 h=>?_)
     replace h:=h.pick [] rfl
     obtain rfl:=qb hF
     exact rG ⟨_,hK1,rfl,h⟩ rfl
    refine Y0 30 rfl (dN h fun w9 h=>?_)
    replace h:=h.pick [] rfl
    obtain rfl:=qb hF
    exact rG ⟨_,hK1,rfl,h⟩ rfl
   refine Y0 36 rfl (dN h fun w10 h=>?_)
   replace h:=h.pick [] rfl
   obtain rfl:=qb hF
   exact rG ⟨_,hK1,rfl,h⟩ rfl
  rintro e1 w11 ⟨b1,hF,rfl,h⟩
  subst hKF1
  exact rb h hF rfl
 refine zKSS ?_
 obtain ⟨KF3,hKF3,o3,hF,hK3⟩:=bindE hF
 refine qba (fun e w'=>∃ (b2:Bool),KF3 b2=some r∧e=[(2,.pointer (some ⟨bb1,0,none⟩)),(3,.pointer (some ⟨bb2,0,none⟩)),(70,.bool b2)]∧SH w w' [Ch.box bb2 (qgq a_1 p4 p5 k4 k5) 171,Ch.box bb1 (qdD a_0 p1 p2 p3 k1 k2 k3) 166]) ?_ ?_
 ·refine rD (Y1 2 0 h rfl ?_)
  obtain ⟨r6,hr8,hF⟩:=qc hF
  refine qbb r6 (vsB _) (cB 266 rfl) (fun _ hb=>qhu ⟨_,_,rfl,((h.ext hb).oldS s4)⟩ hr8) rfl rfl rfl rfl (zd2 rfl (qaM (t:=51) hF rfl ?_ ?_))<;>intro hF
  ·refine Y0 19 rfl (dN h fun w14 h=>?_)
   obtain rfl:=qb hF
   exact rG ⟨_,hK3,rfl,h⟩ rfl
  refine Y1 4 0 h rfl ?_
  refine Y0 1 rfl ?_
  obtain ⟨r7,hr9,hF⟩:=qc hF
  refine qbb r7 (vsB _) (cB 266 rfl) (fun _ hb=>qhu ⟨_,_,rfl,((h.ext hb).oldS s5)⟩ hr9) rfl rfl rfl rfl (Y0 4 rfl (qaM (t:=57) hF rfl ?_ ?_))<;>intro hF
  ·refine Y0 13 rfl (dN h fun w15 h=>?_)
   obtain rfl:=qb hF
   exact rG ⟨_,hK3,rfl,h⟩ rfl
  refine Y1 4 0 h rfl ?_
  refine Y1 2 1 h rfl ?_
  refine Y0 1 rfl ?_
  obtain ⟨r8,hr10,hF⟩:=qc hF
  refine qbb r8 (vsI _) (cB 256 rfl) (fun _ hb=>qgR ((h.ext hb).old ha1) hr10) rfl rfl rfl rfl (Y0 4 rfl (qaM (t:=64) hF rfl ?_ ?_))<;>intro hF
  ·refine Y0 6 rfl (dN h fun w16 h=>?_)
   obtain rfl:=qb hF
   exact rG ⟨_,hK3,rfl,h⟩ rfl
  refine Y1 2 1 h rfl ?_
  refine Y1 4 0 h rfl ?_
  refine Y0 1 rfl ?_
  obtain ⟨r9,hr11,hF⟩:=qc hF
  refine qbb r9 (vsB _) (cB 268 rfl) (fun _ hb=>qiK ((h.ext hb).old ha1) hr11) rfl rfl rfl rfl (Y0 3 rfl (dN h fun w17 h=>?_))
  obtain rfl:=qb hF
  exact rG ⟨_,hK3,rfl,h⟩ rfl
 rintro e3 w18 ⟨b2,hF,rfl,h⟩
 subst hKF3
 refine qg rfl hF ?_ ?_<;>intro hF
 ·exact X0 4 rfl (rb h hF rfl)
 refine X1 13 0 h rfl (qg rfl hF ?_ ?_)<;>intro hF
 ·refine X2 6 1 0 h rfl ?_
  obtain ⟨y1,hy1,hF,he1,b3,_,q1,cs3,hp1,hq1,hr5,hc4⟩:=s1.ix hF
  obtain rfl:=qbf hr5
  refine zxe hp1 hq1 he1 rfl (zp1 rfl (zc 3 (hc4.below h.below) rfl (zp2 rfl (qi (t:=83) hF rfl ?_ ?_))))<;>intro hF
  ·exact X1 5 0 h rfl (zcB h hF qau rfl fun r5 w12 h hF=>X0 3 rfl (rb h hF rfl))
  exact X0 6 rfl (rb h hF rfl)
 refine X0 6 rfl ?_
 obtain ⟨KF2,hKF2,o2,hF,hK2⟩:=bindE hF
 refine qba (fun e w'=>∃ (b4:Bool),KF2 b4=some r∧e=[(2,.pointer (some ⟨bb1,0,none⟩)),(3,.pointer (some ⟨bb2,0,none⟩)),(88,.bool b4)]∧SH w w' [Ch.box bb2 (qgq a_1 p4 p5 k4 k5) 171,Ch.box bb1 (qdD a_0 p1 p2 p3 k1 k2 k3) 166]) ?_ ?_
 ·refine qg rfl hF ?_ ?_<;>intro hF
  ·refine qgm ?_
   obtain rfl:=qb hF
   exact rG ⟨_,hK2,rfl,h⟩ rfl
  refine X0 4 rfl ?_
  obtain rfl:=qb hF
  exact rG ⟨_,hK2,rfl,h⟩ rfl
 rintro e2 w13 ⟨b4,hF,rfl,h⟩
 subst hKF2
 refine qg rfl hF ?_ ?_<;>intro hF
 ·refine X2 6 1 0 h rfl ?_
  obtain ⟨y2,hy2,hF,he2,b5,_,q2,cs4,hp2,hq2,hr7,hc6⟩:=s1.ix hF
  obtain rfl:=qbf hr7
  refine zxe hp2 hq2 he2 rfl (zp1 rfl (zc 3 (hc6.below h.below) rfl (zp1 rfl (qi (t:=98) hF rfl ?_ ?_))))<;>intro hF
  ·exact X1 9 0 h rfl (rb h hF rfl)
  exact X0 6 rfl (rb h hF rfl)
 exact X0 6 rfl (rb h hF rfl)
def qeU (_:Nat) (a_o:qP) (v0:qP):Option Bool :=
 bif (a_o.Be==v0.Be) then
  bif (a_o.Bk==v0.Bk) then some (a_o.To==v0.To) else
  some false
 else
  some false
theorem qlD {a_o:qP} {v0:qP} (ha1:GoT.R w (old w) a_o cs1) {p3:Option Addr} (ha2:GoT.R w (old w) (some v0) [.pointer p3]) {r:Bool} (hF:qeU n a_o v0=some r):RetV Tryz.prog 255 [GoT.v qP cs1,.pointer p3] w r:=by
 obtain ⟨p1,k1,p2,k2,rfl,s1,s2⟩:=qac ha1
 obtain ⟨b1,o_1,cs2,rfl,-,hr1,hc1⟩:=PtR.get ha2 rfl
 obtain ⟨p4,k3,p5,k4,rfl,s3,s4⟩:=qac hr1
 refine zV 23 Tryz.func255 rfl fun h=>zSR (qu h rfl rfl fun w1 bb1 h=>X1 7 0 h rfl (zc 0 (hc1.below h.below) rfl (zp2 rfl (qi (t:=9) hF rfl ?_ ?_))))<;>intro hF
 ·refine X1 7 0 h rfl (zc 1 (hc1.below h.below) rfl (X0 4 rfl (qi (t:=16) hF rfl ?_ ?_)))<;>intro hF
  ·exact X1 7 0 h rfl (zc 2 (hc1.below h.below) rfl (X0 5 rfl (rb h hF rfl)))
  exact X0 8 rfl (rb h hF rfl)
 exact X0 15 rfl (rb h hF rfl)
def qK (s:(List qP)) (f_0:qP):Nat→Int→Option (Flow Int Int)
 | 0,_=>none
 | n+1,i1 =>
  bif decide (i1<(s.length:Int)) then
   (idx s i1).bind fun y1 =>
   (qeU n y1 f_0).bind fun r1 =>
   bif r1 then some (.ret i1) else
   qK s f_0 n (W64 (i1+1))
  else
   some (.nxt i1)
def qaT (n:Nat) (s:(List qP)) (f_0:qP):Option Int :=
 (qK s f_0 n 0).bind fun o=>match o with
 | .ret r=>some r
 | .nxt _ =>
  some (-1)
theorem qeb {s:(List qP)} {f_0:qP} (ha1:GoT.R w (old w) s cs1) {p2:Option Addr} (ha2:GoT.R w (old w) (some f_0) [.pointer p2]) {r:Int} (hF:qaT n s f_0=some r):RetV Tryz.prog 269 [GoT.v (List qP) cs1,.func (.func 255) #[] #[.pointer p2]] w r:=by
 obtain ⟨p1,k1,rfl,s1⟩:=ha1
 obtain ⟨b1,o_1,cs2,rfl,-,hr1,hc1⟩:=PtR.get ha2 rfl
 obtain ⟨p3,k2,p4,k3,rfl,s2,s3⟩:=qac hr1
 refine zV 19 Tryz.func269 rfl fun h=>X0 11 rfl ?_
 obtain ⟨o1,hF,hK1⟩:=qc hF
 refine ql (rL (fun m e w'=>∃ (i1:Int),qK s f_0 m i1=some o1∧e=[(0,.slice p1 s.length k1),(1,.func (.func 255) #[] #[.pointer (some ⟨b1,o_1,none⟩)]),(7,.int .i64 (s.length:Int)),(8,.int .i64 i1)]∧SH w w' []) n ⟨_,hF,rfl,h⟩ rfl ?_)
 rintro m1 e1 w1 ⟨i1,hF,rfl,h⟩
 rcases m1 with _|m1
 ·cases hF
 refine X0 5 rfl (qg rfl hF ?_ ?_)<;>intro hF
 ·refine X0 13 rfl ?_
  obtain ⟨y1,hy1,hF,he1,b2,_,q1,cs3,hp1,hq1,hr2,hc3⟩:=s1.ix hF
  obtain ⟨p5,k4,p6,k5,rfl,s4,s5⟩:=qac hr2
  refine zxe hp1 hq1 he1 rfl (zc 0 (hc3.below h.below) rfl (zcB h hF (qlD (qeW y1 (h.oldS s4) (h.oldS s5)) (h.old ha2)) rfl fun r1 w2 h hF=>qcs (qg rfl hF ?_ ?_)))<;>intro hF
  ·refine X0 5 rfl ?_
   obtain rfl:=qb hF;replace hF:=hK1
   exact ri h hF rfl
  exact X0 6 rfl (rK ⟨_,hF,rfl,h⟩ rfl)
 refine qr rfl ?_
 obtain rfl:=qb hF;replace hF:=hK1
 exact X0 4 rfl (ri h hF rfl)
def qao (n:Nat) (s:(List qP)) (f_0:qP):Option Bool :=
 (qaT n s f_0).bind fun r1 =>
 some (decide (r1 ≥ 0))
theorem qdP {s:(List qP)} {f_0:qP} (ha1:GoT.R w (old w) s cs1) {p2:Option Addr} (ha2:GoT.R w (old w) (some f_0) [.pointer p2]) {r:Bool} (hF:qao n s f_0=some r):RetV Tryz.prog 254 [GoT.v (List qP) cs1,.func (.func 255) #[] #[.pointer p2]] w r:=by
 obtain ⟨p1,k1,rfl,s1⟩:=ha1
 obtain ⟨b1,o_1,cs2,rfl,-,hr1,hc1⟩:=PtR.get ha2 rfl
 obtain ⟨p3,k2,p4,k3,rfl,s2,s3⟩:=qac hr1
 exact zV 9 Tryz.func254 rfl fun h=>X0 8 rfl (zcI h hF (qeb ⟨_,_,rfl,(h.oldS s1)⟩ (h.old ha2)) rfl fun r1 w1 h hF=>X0 3 rfl (rb h hF rfl))
def qch (c:qB):Nat→Int→Option (Flow Bool Int)
 | 0,_=>none
 | n+1,i1 =>
  bif decide (i1<(c.Ar.length:Int)) then
   (idx c.Ar i1).bind fun y1 =>
   (qhe n c y1).bind fun r1 =>
   bif (!r1) then some (.ret false) else
   (subS c.Ar 0 i1).bind fun x1 =>
   (qao n x1 y1).bind fun r2 =>
   bif r2 then some (.ret false) else
   qch c n (W64 (i1+1))
  else
   some (.nxt i1)
def qf5 (n:Nat) (c:qB):Option Bool :=
 (qch c n 0).bind fun o=>match o with
 | .ret r=>some r
 | .nxt _ =>
  some (decide ((c.Ar.length:Int)≤8))
theorem qmw {c:qB} (ha1:GoT.R w (old w) c cs1) {r:Bool} (hF:qf5 n c=some r):RetV Tryz.prog 236 [GoT.v qB cs1] w r:=by
 obtain ⟨p1,k1,p2,k2,p3,k3,rfl,s1,s2,s3⟩:=qZ ha1
 refine zV 30 Tryz.func236 rfl fun h=>zSR (qu h rfl rfl fun w1 bb1 h=>X1 10 0 h rfl ?_)
 obtain ⟨o1,hF,hK1⟩:=qc hF
 refine ql (rL (fun m e w'=>∃ (i1:Int),qch c m i1=some o1∧e=[(1,.pointer (some ⟨bb1,0,none⟩)),(6,.slice p2 c.Ar.length k2),(7,.int .i64 (c.Ar.length:Int)),(8,.int .i64 i1)]∧SH w w' [Ch.box bb1 (qdD c p1 p2 p3 k1 k2 k3) 166]) n ⟨_,hF,rfl,h⟩ rfl ?_)
 rintro m1 e1 w2 ⟨i1,hF,rfl,h⟩
 rcases m1 with _|m1
 ·cases hF
 refine X0 5 rfl (qg rfl hF ?_ ?_)<;>intro hF
 ·refine X0 6 rfl ?_
  obtain ⟨y1,hy1,hF,he1,b1,_,q1,cs2,hp1,hq1,hr1,hc2⟩:=s2.ix hF
  obtain ⟨p4,k4,p5,k5,rfl,s4,s5⟩:=qac hr1
  refine zxe hp1 hq1 he1 rfl (zc 0 (hc2.below h.below) rfl (qm qa h rfl rfl rfl fun w3 bb2 h=>zp1 rfl (zs 0 h rfl fun w4 h=>X2 5 1 0 h rfl (zcB h hF (qno (h.old ha1) (qeW y1 (h.oldS s4) (h.oldS s5))) rfl fun r1 w5 h hF=>zp2 rfl (qi (t:=17) hF rfl ?_ ?_)))))<;>intro hF
  ·refine X0 8 rfl (qbW rfl rfl (X0 4 rfl ?_))
   obtain rfl:=qb hF;replace hF:=hK1
   exact rb h hF rfl
  refine X1 7 1 h rfl ?_
  obtain ⟨x1,hx1,hF⟩:=qc hF
  obtain ⟨p6,k6,hp2,hk1,hl1,g1⟩:=quY (h.oldS s2) hx1
  refine r_v (qsv qa rfl rfl rfl (qu8 g1 rfl) hp2 hk1 hl1 rfl rfl rfl rfl) rfl ?_
  have s6:=qv3 s2 hx1 hp2 hk1
  refine X0 3 rfl (zcB h hF (qdP ⟨_,_,rfl,(h.oldS s6)⟩ (qhQ (x:=y1) 0 h rfl (qeW y1 (h.oldS s4) (h.oldS s5)))) rfl fun r2 w6 h hF=>X0 2 rfl (qg rfl hF ?_ ?_))<;>intro hF
  ·refine X0 4 rfl ?_
   obtain rfl:=qb hF;replace hF:=hK1
   exact rb h hF rfl
  refine X0 6 rfl ?_
  replace h:=h.pick [1] rfl
  exact rK ⟨_,hF,rfl,h⟩ rfl
 refine qr rfl ?_
 obtain rfl:=qb hF;replace hF:=hK1
 exact X1 8 0 h rfl (rb h hF rfl)
def qjd (_:Nat) (a:qP) (v0:Int):Option Bool :=
 some (a.Be==v0)
theorem qni {a:qP} {v0:Int} (ha1:GoT.R w (old w) a cs1) {p3:Option Addr} (ha2:GoT.R w (old w) (some v0) [.pointer p3]) {r:Bool} (hF:qjd n a v0=some r):RetV Tryz.prog 270 [GoT.v qP cs1,.pointer p3] w r:=by
 obtain ⟨p1,k1,p2,k2,rfl,s1,s2⟩:=qac ha1
 obtain ⟨b1,o_1,cs2,rfl,-,hr1,hc1⟩:=PtR.get ha2 rfl
 obtain rfl:=hr1
 exact zV 8 Tryz.func270 rfl fun h=>zSR (qu h rfl rfl fun w1 bb1 h=>X1 6 0 h rfl (zc 0 (hc1.below h.below) rfl (X0 3 rfl (rb h hF rfl))))
def qU (s:(List qP)) (f_0:Int):Nat→Int→Option (Flow Int Int)
 | 0,_=>none
 | n+1,i1 =>
  bif decide (i1<(s.length:Int)) then
   (idx s i1).bind fun y1 =>
   (qjd n y1 f_0).bind fun r1 =>
   bif r1 then some (.ret i1) else
   qU s f_0 n (W64 (i1+1))
  else
   some (.nxt i1)
def qbn (n:Nat) (s:(List qP)) (f_0:Int):Option Int :=
 (qU s f_0 n 0).bind fun o=>match o with
 | .ret r=>some r
 | .nxt _ =>
  some (-1)
theorem qe2 {s:(List qP)} {f_0:Int} (ha1:GoT.R w (old w) s cs1) {p2:Option Addr} (ha2:GoT.R w (old w) (some f_0) [.pointer p2]) {r:Int} (hF:qbn n s f_0=some r):RetV Tryz.prog 269 [GoT.v (List qP) cs1,.func (.func 270) #[] #[.pointer p2]] w r:=by
 obtain ⟨p1,k1,rfl,s1⟩:=ha1
 obtain ⟨b1,o_1,cs2,rfl,-,hr1,hc1⟩:=PtR.get ha2 rfl
 obtain rfl:=hr1
 refine zV 19 Tryz.func269 rfl fun h=>X0 11 rfl ?_
 obtain ⟨o1,hF,hK1⟩:=qc hF
 refine ql (rL (fun m e w'=>∃ (i1:Int),qU s f_0 m i1=some o1∧e=[(0,.slice p1 s.length k1),(1,.func (.func 270) #[] #[.pointer (some ⟨b1,o_1,none⟩)]),(7,.int .i64 (s.length:Int)),(8,.int .i64 i1)]∧SH w w' []) n ⟨_,hF,rfl,h⟩ rfl ?_)
 rintro m1 e1 w1 ⟨i1,hF,rfl,h⟩
 rcases m1 with _|m1
 ·cases hF
 refine X0 5 rfl (qg rfl hF ?_ ?_)<;>intro hF
 ·refine X0 13 rfl ?_
  obtain ⟨y1,hy1,hF,he1,b2,_,q1,cs3,hp1,hq1,hr2,hc3⟩:=s1.ix hF
  obtain ⟨p3,k2,p4,k3,rfl,s2,s3⟩:=qac hr2
  refine zxe hp1 hq1 he1 rfl (zc 0 (hc3.below h.below) rfl (zcB h hF (qni (qeW y1 (h.oldS s2) (h.oldS s3)) (h.old ha2)) rfl fun r1 w2 h hF=>qcs (qg rfl hF ?_ ?_)))<;>intro hF
  ·refine X0 5 rfl ?_
   obtain rfl:=qb hF;replace hF:=hK1
   exact ri h hF rfl
  exact X0 6 rfl (rK ⟨_,hF,rfl,h⟩ rfl)
 refine qr rfl ?_
 obtain rfl:=qb hF;replace hF:=hK1
 exact X0 4 rfl (ri h hF rfl)
def qa2 (n:Nat) (s:(List qP)) (f_0:Int):Option Bool :=
 (qbn n s f_0).bind fun r1 =>
 some (decide (r1 ≥ 0))
theorem qev {s:(List qP)} {f_0:Int} (ha1:GoT.R w (old w) s cs1) {p2:Option Addr} (ha2:GoT.R w (old w) (some f_0) [.pointer p2]) {r:Bool} (hF:qa2 n s f_0=some r):RetV Tryz.prog 254 [GoT.v (List qP) cs1,.func (.func 270) #[] #[.pointer p2]] w r:=by
 obtain ⟨p1,k1,rfl,s1⟩:=ha1
 obtain ⟨b1,o_1,cs2,rfl,-,hr1,hc1⟩:=PtR.get ha2 rfl
 obtain rfl:=hr1
 exact zV 9 Tryz.func254 rfl fun h=>X0 8 rfl (zcI h hF (qe2 ⟨_,_,rfl,(h.oldS s1)⟩ (h.old ha2)) rfl fun r1 w1 h hF=>X0 3 rfl (rb h hF rfl))
def qc2 (n:Nat) (c:qB) (kind:Int):Option Bool :=
 (qa2 n c.Ar kind).bind fun r1 =>
 some r1
theorem qdX {c:qB} {kind:Int} (ha1:GoT.R w (old w) c cs1) {r:Bool} (hF:qc2 n c kind=some r):RetV Tryz.prog 257 [GoT.v qB cs1,.int .i64 kind] w r:=by
 obtain ⟨p1,k1,p2,k2,p3,k3,rfl,s1,s2,s3⟩:=qZ ha1
 exact zV 9 Tryz.func257 rfl fun h=>zSR (qu h rfl rfl fun w1 bb1 h=>qu h rfl rfl fun w2 bb2 h=>X1 7 1 h rfl (zcB h hF (qev ⟨_,_,rfl,(h.oldS s2)⟩ (qhQ (x:=kind) 0 h rfl rfl)) rfl fun r1 w3 h hF=>X0 2 rfl (rb h hF rfl)))
def qaU (a_0:qB):Nat→Int→Int→Option (Int × Int)
 | 0,_,_=>none
 | n+1,i1,i2 =>
  bif decide (i2<(a_0.Bc.length:Int)) then
   (idx a_0.Bc i2).bind fun y1 =>
   bif y1.Bq then qaU a_0 n (W64 (i1+1)) (W64 (i2+1)) else
   qaU a_0 n i1 (W64 (i2+1))
  else
   some (i1,i2)
def qfq (n:Nat) (a_0:qB):Option Bool :=
 (qaU a_0 n 0 0).bind fun o=>match o with
 | (i1,_) =>
  bif (a_0.Be==1) then
   bif (i1==0) then
    (qdS n a_0).bind fun r1 =>
    (shlS 1 r1).bind fun y2 =>
    bif ((a_0.Br.length:Int)==y2) then
     (qbF n a_0.Br 0 1).bind fun r2 =>
     some r2
    else
     some false
   else
    some false
  else
   bif (a_0.Be==2) then
    bif (i1==1) then
     bif ((a_0.Br.length:Int)==0) then
      (qc2 n a_0 1).bind fun r3 =>
      bif (!r3) then
       (qc2 n a_0 2).bind fun r4 =>
       (qc2 n a_0 3).bind fun r5 =>
       some (!(r4==r5))
      else
       some false
     else
      some false
    else
     some false
   else
    bif (a_0.Be==3) then
     bif (i1==1) then
      bif ((a_0.Br.length:Int)==0) then
       (qc2 n a_0 1).bind fun r6 =>
       bif r6 then
        (qc2 n a_0 2).bind fun r7 =>
        bif r7 then
         (qc2 n a_0 3).bind fun r8 =>
         some (!r8)
        else
         some false
       else
        some false
      else
       some false
     else
      some false
    else
     some false
theorem ql3 {a_0:qB} (ha1:GoT.R w (old w) a_0 cs1) {r:Bool} (hF:qfq n a_0=some r):RetV Tryz.prog 237 [GoT.v qB cs1] w r:=by
 obtain ⟨p1,k1,p2,k2,p3,k3,rfl,s1,s2,s3⟩:=qZ ha1
 refine zV 83 Tryz.func237 rfl fun h=>zSR (qu h rfl rfl fun w1 bb1 h=>X1 14 0 h rfl ?_)
 obtain ⟨o1,hF,hK1⟩:=qc hF
 refine ql (rL (fun m e w'=>∃ (i1:Int) (i2:Int),qaU a_0 m i1 i2=some o1∧e=[(1,.pointer (some ⟨bb1,0,none⟩)),(3,.int .i64 i1),(7,.slice p1 a_0.Bc.length k1),(8,.int .i64 (a_0.Bc.length:Int)),(9,.int .i64 i2)]∧SH w w' [Ch.box bb1 (qdD a_0 p1 p2 p3 k1 k2 k3) 166]) n ⟨_,_,hF,rfl,h⟩ rfl ?_)
 rintro m1 e1 w2 ⟨i1,i2,hF,rfl,h⟩
 rcases m1 with _|m1
 ·cases hF
 refine X0 5 rfl (qg rfl hF ?_ ?_)<;>intro hF
 ·refine zKSBSR ?_
  obtain ⟨y1,hy1,hF,he1,b1,_,q1,cs2,hp1,hq1,hr1,hc2⟩:=s1.ix hF
  obtain rfl:=qbf hr1
  refine zxe hp1 hq1 he1 rfl (zc 0 (hc2.below h.below) rfl (qm qa h rfl rfl rfl fun w3 bb2 h=>zs 0 h rfl fun w4 h=>X1 6 0 h rfl (qg rfl hF ?_ ?_)))<;>intro hF
  ·refine X0 10 rfl ?_
   replace h:=h.pick [1] rfl
   exact rK ⟨_,_,hF,rfl,h⟩ rfl
  refine X0 6 rfl ?_
  replace h:=h.pick [1] rfl
  exact rK ⟨_,_,hF,rfl,h⟩ rfl
 refine qr rfl ?_
 obtain rfl:=qb hF;replace hF:=hK1
 refine X1 12 0 h rfl (qg rfl hF ?_ ?_)<;>intro hF
 ·refine qcE (rD (zd3 rfl (qaM (t:=24) hF rfl ?_ ?_)))<;>intro hF
  ·refine Y1 4 0 h rfl ?_
   refine Y1 4 0 h rfl ?_
   refine Y0 1 rfl ?_
   obtain ⟨r1,hr2,hF⟩:=qc hF
   refine qbb r1 (vsI _) (cB 256 rfl) (fun _ hb=>qgR ((h.ext hb).old ha1) hr2) rfl rfl rfl rfl (Y0 1 rfl ?_)
   obtain ⟨y2,hx1,hF⟩:=qc hF
   obtain ⟨g1,hx1⟩:=qqR hx1
   refine d_v (fun _ hb=>qw7 g1 rfl rfl) rfl ?_
   rw [hx1]
   refine Y0 4 rfl (qaM (t:=33) hF rfl ?_ ?_)<;>intro hF
   ·refine Y1 4 0 h rfl ?_
    refine Y0 1 rfl ?_
    obtain ⟨r2,hr3,hF⟩:=qc hF
    exact qbb r2 (vsB _) (cB 62 rfl) (fun _ hb=>qbY ⟨_,_,rfl,((h.ext hb).oldS s3)⟩ hr3) rfl rfl rfl rfl (zd2 rfl (dN h fun w5 h=>rb h hF rfl))
   exact Y0 5 rfl (dN h fun w6 h=>rb h hF rfl)
  exact Y0 14 rfl (dN h fun w7 h=>rb h hF rfl)
 refine X0 5 rfl (qg rfl hF ?_ ?_)<;>intro hF
 ·refine qcE (rD (zd3 rfl (qaM (t:=42) hF rfl ?_ ?_)))<;>intro hF
  ·refine Y1 4 0 h rfl ?_
   refine Y0 6 rfl (qaM (t:=48) hF rfl ?_ ?_)<;>intro hF
   ·refine Y1 2 0 h rfl ?_
    refine Y0 1 rfl ?_
    obtain ⟨r3,hr4,hF⟩:=qc hF
    refine qbb r3 (vsB _) (cB 257 rfl) (fun _ hb=>qdX ((h.ext hb).old ha1) hr4) rfl rfl rfl rfl (Y0 4 rfl (qaM (t:=53) hF rfl ?_ ?_))<;>intro hF
    ·refine Y1 2 0 h rfl ?_
     refine Y0 1 rfl ?_
     obtain ⟨r4,hr5,hF⟩:=qc hF
     refine qbb r4 (vsB _) (cB 257 rfl) (fun _ hb=>qdX ((h.ext hb).old ha1) hr5) rfl rfl rfl rfl (Y1 2 0 h rfl ?_)
     refine Y0 1 rfl ?_
     obtain ⟨r5,hr6,hF⟩:=qc hF
     exact qbb r5 (vsB _) (cB 257 rfl) (fun _ hb=>qdX ((h.ext hb).old ha1) hr6) rfl rfl rfl rfl (Y0 4 rfl (dN h fun w8 h=>rb h hF rfl))
    exact Y0 7 rfl (dN h fun w9 h=>rb h hF rfl)
   exact Y0 12 rfl (dN h fun w10 h=>rb h hF rfl)
  exact Y0 18 rfl (dN h fun w11 h=>rb h hF rfl)
 refine X0 5 rfl (qg rfl hF ?_ ?_)<;>intro hF
 ·refine X0 5 rfl (qi (t:=64) hF rfl ?_ ?_)<;>intro hF
  ·refine X1 10 0 h rfl (qi (t:=70) hF rfl ?_ ?_)<;>intro hF
   ·refine X1 3 0 h rfl (zcB h hF (qdX (h.old ha1)) rfl fun r6 w12 h hF=>zp2 rfl (qi (t:=74) hF rfl ?_ ?_))<;>intro hF
    ·refine X1 3 0 h rfl (zcB h hF (qdX (h.old ha1)) rfl fun r7 w13 h hF=>zp2 rfl (qi (t:=78) hF rfl ?_ ?_))<;>intro hF
     ·exact X1 3 0 h rfl (zcB h hF (qdX (h.old ha1)) rfl fun r8 w14 h hF=>X0 5 rfl (rb h hF rfl))
     exact X0 6 rfl (rb h hF rfl)
    exact X0 10 rfl (rb h hF rfl)
   exact X0 14 rfl (rb h hF rfl)
  exact X0 20 rfl (rb h hF rfl)
 exact X0 6 rfl (rb h hF rfl)
def qkw (n:Nat) (c:qB):Option Bool :=
 (qhq n c.Ba).bind fun r1 =>
 bif r1 then
  (qjy n c.Bc).bind fun r2 =>
  bif r2 then
   (qf5 n c).bind fun r3 =>
   bif r3 then
    (qaG n c.Ca 0 100000).bind fun r4 =>
    bif r4 then
     (qaG n c.Bu 0 100000).bind fun r5 =>
     bif r5 then
      (qfq n c).bind fun r6 =>
      some r6
     else
      some false
    else
     some false
   else
    some false
  else
   some false
 else
  some false
theorem qpM {c:qB} (ha1:GoT.R w (old w) c cs1) {r:Bool} (hF:qkw n c=some r):RetV Tryz.prog 204 [GoT.v qB cs1] w r:=by
 obtain ⟨p1,k1,p2,k2,p3,k3,rfl,s1,s2,s3⟩:=qZ ha1
 refine zV 29 Tryz.func204 rfl fun h=>zSR (qu h rfl rfl fun w1 bb1 h=>X1 6 0 h rfl (zcB h hF qj0 rfl fun r1 w2 h hF=>zp1 rfl (qi (t:=6) hF rfl ?_ ?_)))<;>intro hF
 ·refine X1 5 0 h rfl (zcB h hF (qpf ⟨_,_,rfl,(h.oldS s1)⟩) rfl fun r2 w3 h hF=>zp2 rfl (qi (t:=11) hF rfl ?_ ?_))<;>intro hF
  ·refine X1 3 0 h rfl (zcB h hF (qmw (h.old ha1)) rfl fun r3 w4 h hF=>zp2 rfl (qi (t:=15) hF rfl ?_ ?_))<;>intro hF
   ·refine X1 5 0 h rfl (zcB h hF qau rfl fun r4 w5 h hF=>zp2 rfl (qi (t:=20) hF rfl ?_ ?_))<;>intro hF
    ·refine X1 5 0 h rfl (zcB h hF qau rfl fun r5 w6 h hF=>zp2 rfl (qi (t:=25) hF rfl ?_ ?_))<;>intro hF
     ·exact X1 3 0 h rfl (zcB h hF (ql3 (h.old ha1)) rfl fun r6 w7 h hF=>X0 3 rfl (rb h hF rfl))
     exact X0 5 rfl (rb h hF rfl)
    exact X0 10 rfl (rb h hF rfl)
   exact X0 15 rfl (rb h hF rfl)
  exact X0 19 rfl (rb h hF rfl)
 exact X0 24 rfl (rb h hF rfl)
def qcl (l:qp):Nat→(List ByteArray)→Int→Option (Flow Bool ((List ByteArray) × Int))
 | 0,_,_=>none
 | n+1,x1,i1 =>
  bif decide (i1<(l.Aq.length:Int)) then
   (idx l.Aq i1).bind fun y1 =>
   (qkw n y1).bind fun r1 =>
   bif (!r1) then some (.ret false) else
   (appS x1 ([y1.Ba]:List ByteArray)).bind fun x2 =>
   qcl l n x2 (W64 (i1+1))
  else
   some (.nxt (x1,i1))
def qh0 (n:Nat) (l:qp):Option Bool :=
 (qcl l n ([]:List ByteArray) 0).bind fun o=>match o with
 | .ret r=>some r
 | .nxt (x1,_) =>
  bif decide ((l.Aq.length:Int)≤8) then
   (qdH n x1).bind fun r2 =>
   some r2
  else
   some false
theorem qnD {l:qp} (ha1:GoT.R w (old w) l cs1) {r:Bool} (hF:qh0 n l=some r):RetV Tryz.prog 170 [GoT.v qp cs1] w r:=by
 obtain ⟨p1,k1,rfl,s1⟩:=qbr ha1
 refine zV 30 Tryz.func170 rfl fun h=>zSR (qu h rfl rfl fun w1 bb1 h=>X1 14 0 h rfl ?_)
 replace h:=h.nil (α:=ByteArray)
 obtain ⟨o1,hF,hK1⟩:=qc hF
 refine ql (rL (fun m e w'=>∃ (S1:Nat→Prop) (p2:Option Addr) (ln1:Nat) (k2:Nat) (x1:(List ByteArray)) (i1:Int),qcl l m x1 i1=some o1∧e=[(1,.pointer (some ⟨bb1,0,none⟩)),(3,.slice p2 ln1 k2),(7,.slice p1 l.Aq.length k1),(8,.int .i64 (l.Aq.length:Int)),(9,.int .i64 i1)]∧SH w w' [Ch.own S1 (x1:List ByteArray) [.slice p2 ln1 k2],Ch.box bb1 [.slice p1 l.Aq.length k1] 43]) n ⟨_,_,_,_,_,_,hF,rfl,h⟩ rfl ?_)
 rintro m1 e1 w2 ⟨S1,p2,ln1,k2,x1,i1,hF,rfl,h⟩
 obtain rfl:=(h.sl 0 rfl).2
 rcases m1 with _|m1
 ·cases hF
 refine X0 5 rfl (qg rfl hF ?_ ?_)<;>intro hF
 ·refine zKSBSR ?_
  obtain ⟨y1,hy1,hF,he1,b1,_,q1,cs2,hp1,hq1,hr1,hc2⟩:=s1.ix hF
  obtain ⟨p3,k3,p4,k4,p5,k5,rfl,s2,s3,s4⟩:=qZ hr1
  refine zxe hp1 hq1 he1 rfl (zc 0 (hc2.below h.below) rfl (qm qa h rfl rfl rfl fun w3 bb2 h=>zs 0 h rfl fun w4 h=>X1 5 0 h rfl (zcB h hF (qpM (qjH y1 (h.oldS s2) (h.oldS s3) (h.oldS s4))) rfl fun r1 w5 h hF=>X0 2 rfl (qg rfl hF ?_ ?_))))<;>intro hF
  ·refine X0 4 rfl ?_
   obtain rfl:=qb hF;replace hF:=hK1
   exact rb h hF rfl
  refine X1 5 0 h rfl (qO qa [.tmp 18] _ ([y1.Ba]:List ByteArray) h rfl rfl rfl rfl rfl rfl rfl rfl rfl ⟨rfl,trivial⟩ rfl fun w6 p6 S2 h=>?_)
  obtain ⟨x2,hx1,hF⟩:=qc hF
  obtain ⟨g1,hx1⟩:=qar hx1
  refine qcM qa 2 h rfl (h.sl 0 rfl).1 (h.sl 0 rfl).2 rfl rfl rfl rfl rfl rfl rfl rfl rfl g1 hx1 rfl fun w7 p7 k6 S3 h=>X0 7 rfl ?_
  replace h:=h.pick [2,3] rfl
  exact rK ⟨_,_,_,_,_,_,hF,rfl,h⟩ rfl
 refine qr rfl ?_
 obtain rfl:=qb hF;replace hF:=hK1
 refine X1 7 1 h rfl (qi (t:=26) hF rfl ?_ ?_)<;>intro hF
 ·exact X0 3 rfl (zcB h hF (qe1 (h.own 0 rfl)) rfl fun r2 w8 h hF=>X0 3 rfl (rb h hF rfl))
 exact X0 5 rfl (rb h hF rfl)
def qa0 (d:qd):Nat→(List ByteArray)→Int→Option ((List ByteArray) × Int)
 | 0,_,_=>none
 | n+1,x3,i2 =>
  bif decide (i2<(d.Aj.length:Int)) then
   (idx d.Aj i2).bind fun y2 =>
   (appS x3 ([y2.Ba]:List ByteArray)).bind fun x4 =>
   qa0 d n x4 (W64 (i2+1))
  else
   some (x3,i2)
def qaZ (d:qd):Nat→(List ByteArray)→Int→Option ((List ByteArray) × Int)
 | 0,_,_=>none
 | n+1,x1,i1 =>
  bif decide (i1<(d.Aa.length:Int)) then
   (idx d.Aa i1).bind fun y1 =>
   (appS x1 ([y1.Ba]:List ByteArray)).bind fun x2 =>
   qaZ d n x2 (W64 (i1+1))
  else
   some (x1,i1)
def qes (n:Nat) (d:qd):Option Bool :=
 (qaZ d n ([]:List ByteArray) 0).bind fun o=>match o with
 | (x1,_) =>
  (qa0 d n ([]:List ByteArray) 0).bind fun o=>match o with
  | (x3,_) =>
   bif decide ((x1.length:Int)≤14) then
    bif decide ((d.Am.length:Int)≤30) then
     bif decide ((x3.length:Int)≤8) then
      (qdH n x1).bind fun r1 =>
      bif r1 then
       (qdH n d.Am).bind fun r2 =>
       bif r2 then
        (qdH n x3).bind fun r3 =>
        some r3
       else
        some false
      else
       some false
     else
      some false
    else
     some false
   else
    some false
theorem qlj {d:qd} (ha1:GoT.R w (old w) d cs1) {r:Bool} (hF:qes n d=some r):RetV Tryz.prog 171 [GoT.v qd cs1] w r:=by
 obtain ⟨p1,k1,p2,k2,p3,k3,rfl,s1,s2,s3⟩:=qap ha1
 refine zV 62 Tryz.func171 rfl fun h=>zSR (qu h rfl rfl fun w1 bb1 h=>X1 15 0 h rfl ?_)
 replace h:=h.nil (α:=ByteArray)
 obtain ⟨o1,hF,hK1⟩:=qc hF
 refine ql (rL (fun m e w'=>∃ (S1:Nat→Prop) (p4:Option Addr) (ln1:Nat) (k4:Nat) (x1:(List ByteArray)) (i1:Int),qaZ d m x1 i1=some o1∧e=[(1,.pointer (some ⟨bb1,0,none⟩)),(3,.slice p4 ln1 k4),(4,.slice none 0 0),(10,.slice p1 d.Aa.length k1),(11,.int .i64 (d.Aa.length:Int)),(12,.int .i64 i1)]∧SH w w' [Ch.own S1 (x1:List ByteArray) [.slice p4 ln1 k4],Ch.box bb1 (qaC d p1 p2 p3 k1 k2 k3) 47]) n ⟨_,_,_,_,_,_,hF,rfl,h⟩ rfl ?_)
 rintro m1 e1 w2 ⟨S1,p4,ln1,k4,x1,i1,hF,rfl,h⟩
 obtain rfl:=(h.sl 0 rfl).2
 rcases m1 with _|m1
 ·cases hF
 refine X0 5 rfl (qg rfl hF ?_ ?_)<;>intro hF
 ·refine zKSBSR ?_
  obtain ⟨y1,hy1,hF,he1,b1,_,q1,cs2,hp1,hq1,hr1,hc2⟩:=s1.ix hF
  obtain ⟨p5,k5,rfl,s4⟩:=qN hr1
  refine zxe hp1 hq1 he1 rfl (zc 0 (hc2.below h.below) rfl (qm qa h rfl rfl rfl fun w3 bb2 h=>zs 0 h rfl fun w4 h=>X1 5 0 h rfl (qO qa [.tmp 18] _ ([y1.Ba]:List ByteArray) h rfl rfl rfl rfl rfl rfl rfl rfl rfl ⟨rfl,trivial⟩ rfl fun w5 p6 S2 h=>?_)))
  obtain ⟨x2,hx1,hF⟩:=qc hF
  obtain ⟨g1,hx1⟩:=qar hx1
  refine qcM qa 2 h rfl (h.sl 0 rfl).1 (h.sl 0 rfl).2 rfl rfl rfl rfl rfl rfl rfl rfl rfl g1 hx1 rfl fun w6 p7 k6 S3 h=>X0 7 rfl ?_
  replace h:=h.pick [2,3] rfl
  exact rK ⟨_,_,_,_,_,_,hF,rfl,h⟩ rfl
 refine qr rfl ?_
 obtain rfl:=qb hF;replace hF:=hK1
 refine X1 8 1 h rfl ?_
 replace h:=h.nil (α:=ByteArray)
 obtain ⟨o2,hF,hK2⟩:=qc hF
 refine ql (rL (fun m e w'=>∃ (S4:Nat→Prop) (p8:Option Addr) (ln2:Nat) (k7:Nat) (x3:(List ByteArray)) (i2:Int),qa0 d m x3 i2=some o2∧e=[(1,.pointer (some ⟨bb1,0,none⟩)),(3,.slice p4 x1.length k4),(4,.slice p8 ln2 k7),(23,.slice p3 d.Aj.length k3),(24,.int .i64 (d.Aj.length:Int)),(25,.int .i64 i2)]∧SH w w' [Ch.own S4 (x3:List ByteArray) [.slice p8 ln2 k7],Ch.own S1 (x1:List ByteArray) [.slice p4 x1.length k4],Ch.box bb1 (qaC d p1 p2 p3 k1 k2 k3) 47]) n ⟨_,_,_,_,_,_,hF,rfl,h⟩ rfl ?_)
 rintro m2 e2 w7 ⟨S4,p8,ln2,k7,x3,i2,hF,rfl,h⟩
 obtain rfl:=(h.sl 0 rfl).2
 rcases m2 with _|m2
 ·cases hF
 refine X0 5 rfl (qg rfl hF ?_ ?_)<;>intro hF
 ·refine zKSBSR ?_
  obtain ⟨y2,hy2,hF,he2,b2,_,q2,cs3,hp2,hq2,hr2,hc4⟩:=s3.ix hF
  obtain rfl:=qa8 hr2
  refine zxe hp2 hq2 he2 rfl (zc 0 (hc4.below h.below) rfl (qm qa h rfl rfl rfl fun w8 bb3 h=>zs 0 h rfl fun w9 h=>X1 5 0 h rfl (qO qa [.tmp 31] _ ([y2.Ba]:List ByteArray) h rfl rfl rfl rfl rfl rfl rfl rfl rfl ⟨rfl,trivial⟩ rfl fun w10 p9 S5 h=>?_)))
  obtain ⟨x4,hx2,hF⟩:=qc hF
  obtain ⟨g2,hx2⟩:=qar hx2
  refine qcM qa 2 h rfl (h.sl 0 rfl).1 (h.sl 0 rfl).2 rfl rfl rfl rfl rfl rfl rfl rfl rfl g2 hx2 rfl fun w11 p10 k8 S6 h=>X0 7 rfl ?_
  replace h:=h.pick [2,3,4] rfl
  exact rK ⟨_,_,_,_,_,_,hF,rfl,h⟩ rfl
 refine qr rfl ?_
 obtain rfl:=qb hF;replace hF:=hK2
 refine X0 6 rfl (qi (t:=38) hF rfl ?_ ?_)<;>intro hF
 ·refine X1 10 2 h rfl (qi (t:=44) hF rfl ?_ ?_)<;>intro hF
  ·refine X0 8 rfl (qi (t:=49) hF rfl ?_ ?_)<;>intro hF
   ·refine X0 3 rfl (zcB h hF (qe1 (h.own 1 rfl)) rfl fun r1 w12 h hF=>zp2 rfl (qi (t:=53) hF rfl ?_ ?_))<;>intro hF
    ·refine X1 5 2 h rfl (zcB h hF (qe1 ⟨_,_,rfl,(h.oldS s2)⟩) rfl fun r2 w13 h hF=>zp2 rfl (qi (t:=58) hF rfl ?_ ?_))<;>intro hF
     ·exact X0 3 rfl (zcB h hF (qe1 (h.own 0 rfl)) rfl fun r3 w14 h hF=>X0 3 rfl (rb h hF rfl))
     exact X0 5 rfl (rb h hF rfl)
    exact X0 10 rfl (rb h hF rfl)
   exact X0 14 rfl (rb h hF rfl)
  exact X0 19 rfl (rb h hF rfl)
 exact X0 25 rfl (rb h hF rfl)
def qfT (_:Nat) (list:(List qB)):Option Int :=
 some (list.length:Int)
theorem qkM {list:(List qB)} (ha1:GoT.R w (old w) list cs1) {r:Int} (hF:qfT n list=some r):RetV Tryz.prog 206 [GoT.v (List qB) cs1] w r:=by
 obtain ⟨p1,k1,rfl,s1⟩:=ha1
 exact zV 5 Tryz.func206 rfl fun h=>X0 10 rfl (ri h hF rfl)
def qhh (_:Nat) (list:(List ByteArray)):Option Int :=
 some (list.length:Int)
theorem qlY {list:(List ByteArray)} (ha1:GoT.R w (old w) list cs1) {r:Int} (hF:qhh n list=some r):RetV Tryz.prog 208 [GoT.v (List ByteArray) cs1] w r:=by
 obtain ⟨p1,k1,rfl,s1⟩:=ha1
 exact zV 5 Tryz.func208 rfl fun h=>X0 10 rfl (ri h hF rfl)
def qdg (n:Nat) (d:qd) (net:Int):Option Bool :=
 (qhh n d.Am).bind fun r1 =>
 (qaG n net 0 (W64 (r1-1))).bind fun r2 =>
 some r2
theorem qf8 {d:qd} {net:Int} (ha1:GoT.R w (old w) d cs1) {r:Bool} (hF:qdg n d net=some r):RetV Tryz.prog 173 [GoT.v qd cs1,.int .i64 net] w r:=by
 obtain ⟨p1,k1,p2,k2,p3,k3,rfl,s1,s2,s3⟩:=qap ha1
 exact zV 11 Tryz.func173 rfl fun h=>zSR (qu h rfl rfl fun w1 bb1 h=>X1 7 0 h rfl (zcI h hF (qlY ⟨_,_,rfl,(h.oldS s2)⟩) rfl fun r1 w2 h hF=>zp1 rfl (zcB h hF qau rfl fun r2 w3 h hF=>X0 2 rfl (rb h hF rfl))))
def qc3 (n:Nat) (net:Int) (v0:qd):Option Bool :=
 (qdg n v0 net).bind fun r1 =>
 some (!r1)
theorem qjz {net:Int} {v0:qd} {p1:Option Addr} (ha1:GoT.R w (old w) (some v0) [.pointer p1]) {r:Bool} (hF:qc3 n net v0=some r):RetV Tryz.prog 207 [.int .i64 net,.pointer p1] w r:=by
 obtain ⟨b1,o_1,cs1,rfl,-,hr1,hc1⟩:=PtR.get ha1 rfl
 obtain ⟨p2,k1,p3,k2,p4,k3,rfl,s1,s2,s3⟩:=qap hr1
 exact zV 8 Tryz.func207 rfl fun h=>X0 6 rfl (zc 0 (hc1.below h.below) rfl (zp1 rfl (zcB h hF (qf8 (qal v0 (h.oldS s1) (h.oldS s2) (h.oldS s3))) rfl fun r1 w1 h hF=>X0 3 rfl (rb h hF rfl))))
def qG (s:(List Int)) (f_0:qd):Nat→Int→Option (Flow Int Int)
 | 0,_=>none
 | n+1,i1 =>
  bif decide (i1<(s.length:Int)) then
   (idx s i1).bind fun y1 =>
   (qc3 n y1 f_0).bind fun r1 =>
   bif r1 then some (.ret i1) else
   qG s f_0 n (W64 (i1+1))
  else
   some (.nxt i1)
def qaP (n:Nat) (s:(List Int)) (f_0:qd):Option Int :=
 (qG s f_0 n 0).bind fun o=>match o with
 | .ret r=>some r
 | .nxt _ =>
  some (-1)
theorem qdY {s:(List Int)} {f_0:qd} (ha1:GoT.R w (old w) s cs1) {p2:Option Addr} (ha2:GoT.R w (old w) (some f_0) [.pointer p2]) {r:Int} (hF:qaP n s f_0=some r):RetV Tryz.prog 160 [GoT.v (List Int) cs1,.func (.func 207) #[] #[.pointer p2]] w r:=by
 obtain ⟨p1,k1,rfl,s1⟩:=ha1
 obtain ⟨b1,o_1,cs2,rfl,-,hr1,hc1⟩:=PtR.get ha2 rfl
 obtain ⟨p3,k2,p4,k3,p5,k4,rfl,s2,s3,s4⟩:=qap hr1
 refine zV 19 Tryz.func160 rfl fun h=>X0 11 rfl ?_
 obtain ⟨o1,hF,hK1⟩:=qc hF
 refine ql (rL (fun m e w'=>∃ (i1:Int),qG s f_0 m i1=some o1∧e=[(0,.slice p1 s.length k1),(1,.func (.func 207) #[] #[.pointer (some ⟨b1,o_1,none⟩)]),(7,.int .i64 (s.length:Int)),(8,.int .i64 i1)]∧SH w w' []) n ⟨_,hF,rfl,h⟩ rfl ?_)
 rintro m1 e1 w1 ⟨i1,hF,rfl,h⟩
 rcases m1 with _|m1
 ·cases hF
 refine X0 5 rfl (qg rfl hF ?_ ?_)<;>intro hF
 ·refine X0 13 rfl ?_
  obtain ⟨y1,hy1,hF,he1,b2,_,q1,cs3,hp1,hq1,rfl,hc3⟩:=s1.ix hF
  refine zxe hp1 hq1 he1 rfl (zc 0 (hc3.below h.below) rfl (zcB h hF (qjz (h.old ha2)) rfl fun r1 w2 h hF=>qcs (qg rfl hF ?_ ?_)))<;>intro hF
  ·refine X0 5 rfl ?_
   obtain rfl:=qb hF;replace hF:=hK1
   exact ri h hF rfl
  exact X0 6 rfl (rK ⟨_,hF,rfl,h⟩ rfl)
 refine qr rfl ?_
 obtain rfl:=qb hF;replace hF:=hK1
 exact X0 4 rfl (ri h hF rfl)
def qaE (n:Nat) (s:(List Int)) (f_0:qd):Option Bool :=
 (qaP n s f_0).bind fun r1 =>
 some (decide (r1 ≥ 0))
theorem qdy {s:(List Int)} {f_0:qd} (ha1:GoT.R w (old w) s cs1) {p2:Option Addr} (ha2:GoT.R w (old w) (some f_0) [.pointer p2]) {r:Bool} (hF:qaE n s f_0=some r):RetV Tryz.prog 111 [GoT.v (List Int) cs1,.func (.func 207) #[] #[.pointer p2]] w r:=by
 obtain ⟨p1,k1,rfl,s1⟩:=ha1
 obtain ⟨b1,o_1,cs2,rfl,-,hr1,hc1⟩:=PtR.get ha2 rfl
 obtain ⟨p3,k2,p4,k3,p5,k4,rfl,s2,s3,s4⟩:=qap hr1
 exact zV 9 Tryz.func111 rfl fun h=>X0 8 rfl (zcI h hF (qdY ⟨_,_,rfl,(h.oldS s1)⟩ (h.old ha2)) rfl fun r1 w1 h hF=>X0 3 rfl (rb h hF rfl))
def qdE (n:Nat) (d:qd) (l:qp) (x:qn):Option Bool :=
 (qfT n l.Aq).bind fun r1 =>
 (qaG n x.Bs 0 (W64 (r1-1))).bind fun r2 =>
 bif r2 then
  (idx l.Aq x.Bs).bind fun y1 =>
  bif ((x.Am.length:Int)==(y1.Bc.length:Int)) then
   (qaE n x.Am d).bind fun r3 =>
   some (!r3)
  else
   some false
 else
  some false
theorem qkh {d:qd} {l:qp} {x:qn} (ha1:GoT.R w (old w) d cs1) (ha2:GoT.R w (old w) l cs2) (ha3:GoT.R w (old w) x cs3) {r:Bool} (hF:qdE n d l x=some r):RetV Tryz.prog 172 [GoT.v qd cs1,GoT.v qp cs2,GoT.v qn cs3] w r:=by
 obtain ⟨p1,k1,p2,k2,p3,k3,rfl,s1,s2,s3⟩:=qap ha1
 obtain ⟨p4,k4,rfl,s4⟩:=qbr ha2
 obtain ⟨p5,k5,rfl,s5⟩:=qN ha3
 refine zV 35 Tryz.func172 rfl fun h=>zSR (qu h rfl rfl fun w1 bb1 h=>qu h rfl rfl fun w2 bb2 h=>qu h rfl rfl fun w3 bb3 h=>X0 3 rfl (rD (Y1 2 0 h rfl ?_)))
 refine Y1 2 1 h rfl ?_
 obtain ⟨r1,hr1,hF⟩:=qc hF
 refine qbb r1 (vsI _) (cB 206 rfl) (fun _ hb=>qkM ⟨_,_,rfl,((h.ext hb).oldS s4)⟩ hr1) rfl rfl rfl rfl (zd1 rfl ?_)
 obtain ⟨r2,hr2,hF⟩:=qc hF
 refine qbb r2 (vsB _) (cB 115 rfl) (fun _ hb=>qau  hr2) rfl rfl rfl rfl (zd1 rfl (qaM (t:=14) hF rfl ?_ ?_))<;>intro hF
 ·refine Y1 4 0 h rfl ?_
  refine Y1 6 1 h rfl ?_
  refine Y1 4 0 h rfl ?_
  refine Y0 1 rfl ?_
  obtain ⟨y1,hy1,hF,he1,b1,_,q1,cs4,hp1,hq1,hr3,hc1⟩:=s4.ix hF
  obtain ⟨p6,k6,p7,k7,p8,k8,rfl,s6,s7,s8⟩:=qZ hr3
  refine zdxe hp1 hq1 he1 rfl (Y0 3 rfl (zdc 2 (hc1.below h.below) rfl (Y0 6 rfl (qaM (t:=28) hF rfl ?_ ?_))))<;>intro hF
  ·refine Y1 4 0 h rfl ?_
   refine Y0 3 rfl ?_
   obtain ⟨r3,hr4,hF⟩:=qc hF
   exact qbb r3 (vsB _) (cB 111 rfl) (fun _ hb=>qdy ⟨_,_,rfl,((h.ext hb).oldS s5)⟩ (qhQ (x:=d) 2 (h.ext hb) rfl ((h.ext hb).old ha1)) hr4) rfl rfl rfl rfl (Y0 4 rfl (dN h fun w4 h=>rb h hF rfl))
  exact Y0 7 rfl (dN h fun w5 h=>rb h hF rfl)
 exact Y0 21 rfl (dN h fun w6 h=>rb h hF rfl)
def qje (_:Nat) (a_n:Int):Option Bool :=
 some (a_n != 1)
theorem qng {a_n:Int}  {r:Bool} (hF:qje n a_n=some r):RetV Tryz.prog 175 [.int .i64 a_n] w r:=by
 exact zV 5 Tryz.func175 rfl fun h=>X0 10 rfl (rb h hF rfl)
def qae (s:(List Int)):Nat→Int→Option (Flow Int Int)
 | 0,_=>none
 | n+1,i1 =>
  bif decide (i1<(s.length:Int)) then
   (idx s i1).bind fun y1 =>
   (qje n y1).bind fun r1 =>
   bif r1 then some (.ret i1) else
   qae s n (W64 (i1+1))
  else
   some (.nxt i1)
def qbR (n:Nat) (s:(List Int)):Option Int :=
 (qae s n 0).bind fun o=>match o with
 | .ret r=>some r
 | .nxt _ =>
  some (-1)
theorem qf7 {s:(List Int)} (ha1:GoT.R w (old w) s cs1) {r:Int} (hF:qbR n s=some r):RetV Tryz.prog 209 [GoT.v (List Int) cs1,.func (.func 175) #[] #[]] w r:=by
 obtain ⟨p1,k1,rfl,s1⟩:=ha1
 refine zV 19 Tryz.func209 rfl fun h=>X0 11 rfl ?_
 obtain ⟨o1,hF,hK1⟩:=qc hF
 refine ql (rL (fun m e w'=>∃ (i1:Int),qae s m i1=some o1∧e=[(0,.slice p1 s.length k1),(1,.func (.func 175) #[] #[]),(7,.int .i64 (s.length:Int)),(8,.int .i64 i1)]∧SH w w' []) n ⟨_,hF,rfl,h⟩ rfl ?_)
 rintro m1 e1 w1 ⟨i1,hF,rfl,h⟩
 rcases m1 with _|m1
 ·cases hF
 refine X0 5 rfl (qg rfl hF ?_ ?_)<;>intro hF
 ·refine X0 13 rfl ?_
  obtain ⟨y1,hy1,hF,he1,b1,_,q1,cs2,hp1,hq1,rfl,hc2⟩:=s1.ix hF
  refine zxe hp1 hq1 he1 rfl (zc 0 (hc2.below h.below) rfl (zcB h hF qng rfl fun r1 w2 h hF=>qcs (qg rfl hF ?_ ?_)))<;>intro hF
  ·refine X0 5 rfl ?_
   obtain rfl:=qb hF;replace hF:=hK1
   exact ri h hF rfl
  exact X0 6 rfl (rK ⟨_,hF,rfl,h⟩ rfl)
 refine qr rfl ?_
 obtain rfl:=qb hF;replace hF:=hK1
 exact X0 4 rfl (ri h hF rfl)
def qbB (n:Nat) (s:(List Int)):Option Bool :=
 (qbR n s).bind fun r1 =>
 some (decide (r1 ≥ 0))
theorem qfp {s:(List Int)} (ha1:GoT.R w (old w) s cs1) {r:Bool} (hF:qbB n s=some r):RetV Tryz.prog 174 [GoT.v (List Int) cs1,.func (.func 175) #[] #[]] w r:=by
 obtain ⟨p1,k1,rfl,s1⟩:=ha1
 exact zV 9 Tryz.func174 rfl fun h=>X0 8 rfl (zcI h hF (qf7 ⟨_,_,rfl,(h.oldS s1)⟩) rfl fun r1 w1 h hF=>X0 3 rfl (rb h hF rfl))
def qca (a_1:qd):Nat→(List Int)→Int→Option (Flow Bool ((List Int) × Int))
 | 0,_,_=>none
 | n+1,x3,i2 =>
  bif decide (i2<(a_1.Aj.length:Int)) then
   (idx a_1.Aj i2).bind fun y5 =>
   (
    bif (y5.Bv != 1) then
     bif (y5.Bv != 2) then some true else
     (qdg n a_1 y5.Bx).bind fun r2 =>
     some (!r2)
    else
     (qdg n a_1 y5.Bx).bind fun r3 =>
     some (!r3)).bind fun b7 =>
   bif b7 then some (.ret false) else
   bif (y5.Bv==1) then
    (idx x3 y5.Bx).bind fun y6 =>
    (idx x3 y5.Bx).bind fun _ =>
    qca a_1 n (setS x3 y5.Bx (W64 (y6+1))) (W64 (i2+1))
   else
    qca a_1 n x3 (W64 (i2+1))
  else
   some (.nxt (x3,i2))
def qcW (a_0:qp) (a_1:qd):Nat→(List Int)→Int→Option (Flow Bool ((List Int) × Int))
 | 0,_,_=>none
 | n+1,x2,i1 =>
  bif decide (i1<(a_1.Aa.length:Int)) then
   (idx a_1.Aa i1).bind fun y1 =>
   (qdE n a_1 a_0 y1).bind fun r1 =>
   bif (!r1) then some (.ret false) else
   (idx y1.Am (W64 ((y1.Am.length:Int)-1))).bind fun y2 =>
   (idx x2 y2).bind fun y3 =>
   (idx x2 y2).bind fun _ =>
   qcW a_0 a_1 n (setS x2 y2 (W64 (y3+1))) (W64 (i1+1))
  else
   some (.nxt (x2,i1))
def qiz (n:Nat) (a_0:qp) (a_1:qd):Option Bool :=
 (
  (qh0 n a_0).bind fun r5 =>
  bif (!r5) then some true else
  (qes n a_1).bind fun r6 =>
  some (!r6)).bind fun b1 =>
 bif b1 then some false else
 (mkS (a_1.Am.length:Int) (0:Int)).bind fun x1 =>
 (qcW a_0 a_1 n x1 0).bind fun o=>match o with
 | .ret r=>some r
 | .nxt (x2,_) =>
  (qca a_1 n x2 0).bind fun o=>match o with
  | .ret r=>some r
  | .nxt (x3,_) =>
   (qbB n x3).bind fun r4 =>
   some (!r4)
theorem qoq {a_0:qp} {a_1:qd} (ha1:GoT.R w (old w) a_0 cs1) (ha2:GoT.R w (old w) a_1 cs2) {r:Bool} (hF:qiz n a_0 a_1=some r):RetV Tryz.prog 134 [GoT.v qp cs1,GoT.v qd cs2] w r:=by
 obtain ⟨p1,k1,rfl,s1⟩:=qbr ha1
 obtain ⟨p2,k2,p3,k3,p4,k4,rfl,s2,s3,s4⟩:=qap ha2
 refine zV 84 Tryz.func134 rfl fun h=>zSR (qu h rfl rfl fun w1 bb1 h=>qu h rfl rfl fun w2 bb2 h=>X0 4 rfl ?_)
 obtain ⟨KF2,hKF2,o4,hF,hK4⟩:=bindE hF
 refine qba (fun e w'=>∃ (b1:Bool),KF2 b1=some r∧e=[(2,.pointer (some ⟨bb1,0,none⟩)),(3,.pointer (some ⟨bb2,0,none⟩)),(17,.bool b1)]∧SH w w' [Ch.box bb2 (qaC a_1 p2 p3 p4 k2 k3 k4) 47,Ch.box bb1 [.slice p1 a_0.Aq.length k1] 43]) ?_ ?_
 ·refine X1 2 1 h rfl (zcB h hF (qnD (h.old ha1)) rfl fun r5 w17 h hF=>zp2 rfl (qi (t:=13) hF rfl ?_ ?_))<;>intro hF
  ·refine X0 5 rfl ?_
   obtain rfl:=qb hF
   exact rG ⟨_,hK4,rfl,h⟩ rfl
  refine X1 3 0 h rfl (zcB h hF (qlj (h.old ha2)) rfl fun r6 w18 h hF=>X0 4 rfl ?_)
  obtain rfl:=qb hF
  exact rG ⟨_,hK4,rfl,h⟩ rfl
 rintro e4 w19 ⟨b1,hF,rfl,h⟩
 subst hKF2
 refine qg rfl hF ?_ ?_<;>intro hF
 ·exact X0 4 rfl (rb h hF rfl)
 refine X1 6 0 h rfl ?_
 obtain ⟨x1,hx1,hF⟩:=qc hF
 obtain ⟨g1,g2,hx1⟩:=qJ hx1
 refine qad qa Int h rfl rfl rfl rfl rfl rfl rfl rfl rfl g1 g2 hx1 rfl fun w3 S1 p5 h=>X1 10 1 h rfl ?_
 obtain ⟨o1,hF,hK1⟩:=qc hF
 refine ql (rL (fun m e w'=>∃ (x2:(List Int)) (i1:Int),qcW a_0 a_1 m x2 i1=some o1∧e=[(2,.pointer (some ⟨bb1,0,none⟩)),(3,.pointer (some ⟨bb2,0,none⟩)),(5,.slice p5 x1.length x1.length),(23,.slice p2 a_1.Aa.length k2),(24,.int .i64 (a_1.Aa.length:Int)),(25,.int .i64 i1)]∧SH w w' [Ch.own S1 (x2:List Int) [.slice p5 x1.length x1.length],Ch.box bb2 (qaC a_1 p2 p3 p4 k2 k3 k4) 47,Ch.box bb1 [.slice p1 a_0.Aq.length k1] 43]) n ⟨_,_,hF,rfl,h⟩ rfl ?_)
 rintro m1 e1 w4 ⟨x2,i1,hF,rfl,h⟩
 rcases m1 with _|m1
 ·cases hF
 refine X0 5 rfl (qg rfl hF ?_ ?_)<;>intro hF
 ·refine zKSBSR ?_
  obtain ⟨y1,hy1,hF,he1,b2,_,q1,cs3,hp1,hq1,hr1,hc3⟩:=s2.ix hF
  obtain ⟨p6,k5,rfl,s5⟩:=qN hr1
  refine zxe hp1 hq1 he1 rfl (zc 0 (hc3.below h.below) rfl (qm qa h rfl rfl rfl fun w5 bb3 h=>zs 0 h rfl fun w6 h=>X3 7 2 3 0 h rfl (zcB h hF (qkh (h.old ha2) (h.old ha1) (qfK y1 (h.oldS s5))) rfl fun r1 w7 h hF=>X0 2 rfl (qg rfl hF ?_ ?_))))<;>intro hF
  ·refine X0 4 rfl ?_
   obtain rfl:=qb hF;replace hF:=hK1
   exact rb h hF rfl
  refine X2 9 0 0 h rfl ?_
  obtain ⟨y2,hy2,hF,he2,b3,_,q2,cs4,hp2,hq2,rfl,hc5⟩:=s5.ix hF
  refine zxe hp2 hq2 he2 rfl (zc 0 (hc5.below h.below) rfl ?_)
  obtain ⟨y3,hy3,hF,he3,b4,_,q3,cs5,hp3,hq3,rfl,hc6⟩:=(h.sl 1 rfl).1.ix hF
  refine zx hp3 hq3 ⟨he3.1,qH he3.2.1 (h.sl 1 rfl).2⟩ rfl (zc 0 hc6 rfl (zp1 rfl ?_))
  obtain ⟨y4,hy4,hF,he4,b5,_,q4,cs6,hp4,hq4,rfl,hc7⟩:=(h.sl 1 rfl).1.ix hF
  refine zx hp4 hq4 ⟨he4.1,qH he4.2.1 (h.sl 1 rfl).2⟩ rfl (qaW qa 1 0 (W64 (y3+1)) h rfl hy4 hp4 hq4 rfl hc7 rfl rfl rfl rfl rfl rfl rfl fun w8 h=>X0 6 rfl ?_)
  replace h:=h.pick [1,2,3] rfl
  exact rK ⟨_,_,hF,rfl,h⟩ rfl
 refine qr rfl ?_
 obtain rfl:=qb hF;replace hF:=hK1
 refine X1 8 1 h rfl ?_
 obtain ⟨o2,hF,hK2⟩:=qc hF
 refine ql ?_
 replace h:=h.pick [0,1] rfl
 refine rL (fun m e w'=>∃ (x3:(List Int)) (i2:Int),qca a_1 m x3 i2=some o2∧e=[(3,.pointer (some ⟨bb2,0,none⟩)),(5,.slice p5 x1.length x1.length),(49,.slice p4 a_1.Aj.length k4),(50,.int .i64 (a_1.Aj.length:Int)),(51,.int .i64 i2)]∧SH w w' [Ch.own S1 (x3:List Int) [.slice p5 x1.length x1.length],Ch.box bb2 (qaC a_1 p2 p3 p4 k2 k3 k4) 47]) n ⟨_,_,hF,rfl,h⟩ rfl ?_
 rintro m2 e2 w9 ⟨x3,i2,hF,rfl,h⟩
 rcases m2 with _|m2
 ·cases hF
 refine X0 5 rfl (qg rfl hF ?_ ?_)<;>intro hF
 ·refine zKSBSR ?_
  obtain ⟨y5,hy5,hF,he5,b6,_,q5,cs7,hp5,hq5,hr6,hc9⟩:=s4.ix hF
  obtain rfl:=qa8 hr6
  refine zxe hp5 hq5 he5 rfl (zc 0 (hc9.below h.below) rfl (qm qa h rfl rfl rfl fun w10 bb4 h=>zs 0 h rfl fun w11 h=>zNSS ?_))
  obtain ⟨KF1,hKF1,o3,hF,hK3⟩:=bindE hF
  refine qba (fun e w'=>∃ (b7:Bool),KF1 b7=some o2∧e=[(3,.pointer (some ⟨bb2,0,none⟩)),(5,.slice p5 x1.length x1.length),(9,.pointer (some ⟨bb4,0,none⟩)),(49,.slice p4 a_1.Aj.length k4),(50,.int .i64 (a_1.Aj.length:Int)),(51,.int .i64 i2),(69,.bool b7)]∧SH w w' [Ch.box bb4 (qps y5) 234,Ch.own S1 (x3:List Int) [.slice p5 x1.length x1.length],Ch.box bb2 (qaC a_1 p2 p3 p4 k2 k3 k4) 47]) ?_ ?_
  ·refine X1 5 0 h rfl (qi (t:=58) hF rfl ?_ ?_)<;>intro hF
   ·refine X1 8 0 h rfl (qi (t:=63) hF rfl ?_ ?_)<;>intro hF
    ·refine X0 7 rfl ?_
     obtain rfl:=qb hF
     exact rG ⟨_,hK3,rfl,h⟩ rfl
    refine X2 7 2 0 h rfl (zcB h hF (qf8 (h.old ha2)) rfl fun r2 w13 h hF=>X0 4 rfl ?_)
    obtain rfl:=qb hF
    exact rG ⟨_,hK3,rfl,h⟩ rfl
   refine X2 12 2 0 h rfl (zcB h hF (qf8 (h.old ha2)) rfl fun r3 w14 h hF=>X0 4 rfl ?_)
   obtain rfl:=qb hF
   exact rG ⟨_,hK3,rfl,h⟩ rfl
  rintro e3 w15 ⟨b7,hF,rfl,h⟩
  subst hKF1
  refine qg rfl hF ?_ ?_<;>intro hF
  ·refine X0 4 rfl ?_
   obtain rfl:=qb hF;replace hF:=hK2
   exact rb h hF rfl
  refine X1 7 0 h rfl (qg rfl hF ?_ ?_)<;>intro hF
  ·refine X1 4 0 h rfl ?_
   obtain ⟨y6,hy6,hF,he6,b8,_,q6,cs8,hp6,hq6,rfl,hc12⟩:=(h.sl 1 rfl).1.ix hF
   refine zx hp6 hq6 ⟨he6.1,qH he6.2.1 (h.sl 1 rfl).2⟩ rfl (zc 0 hc12 rfl (zp1 rfl ?_))
   obtain ⟨y7,hy7,hF,he7,b9,_,q7,cs9,hp7,hq7,rfl,hc13⟩:=(h.sl 1 rfl).1.ix hF
   refine zx hp7 hq7 ⟨he7.1,qH he7.2.1 (h.sl 1 rfl).2⟩ rfl (qaW qa 1 0 (W64 (y6+1)) h rfl hy7 hp7 hq7 rfl hc13 rfl rfl rfl rfl rfl rfl rfl fun w12 h=>X0 6 rfl ?_)
   replace h:=h.pick [1,2] rfl
   exact rK ⟨_,_,hF,rfl,h⟩ rfl
  refine X0 6 rfl ?_
  replace h:=h.pick [1,2] rfl
  exact rK ⟨_,_,hF,rfl,h⟩ rfl
 refine qr rfl ?_
 obtain rfl:=qb hF;replace hF:=hK2
 exact X0 3 rfl (zcB h hF (qfp (h.own 0 rfl)) rfl fun r4 w16 h hF=>X0 3 rfl (rb h hF rfl))
def qbw (i1:Int) (y1:qn):Nat→(List Tplace)→Int→Option ((List Tplace) × Int)
 | 0,_,_=>none
 | n+1,x2,i2 =>
  bif decide (i2<(y1.Am.length:Int)) then
   (idx y1.Am i2).bind fun y2 =>
   (appS x2 ([(⟨i1,i2,y2,(i2==(W64 ((y1.Am.length:Int)-1)))⟩:Tplace)]:List Tplace)).bind fun x3 =>
   qbw i1 y1 n x3 (W64 (i2+1))
  else
   some (x2,i2)
def qbx (d:qd):Nat→(List Tplace)→Int→Option ((List Tplace) × Int)
 | 0,_,_=>none
 | n+1,x4,i3 =>
  bif decide (i3<(d.Aj.length:Int)) then
   (idx d.Aj i3).bind fun y3 =>
   (appS x4 ([(⟨(-1),i3,y3.Bx,(y3.Bv==1)⟩:Tplace)]:List Tplace)).bind fun x5 =>
   qbx d n x5 (W64 (i3+1))
  else
   some (x4,i3)
def qbv (d:qd):Nat→(List Tplace)→Int→Option ((List Tplace) × Int)
 | 0,_,_=>none
 | n+1,x1,i1 =>
  bif decide (i1<(d.Aa.length:Int)) then
   (idx d.Aa i1).bind fun y1 =>
   (qbw i1 y1 n x1 0).bind fun o=>match o with
   | (x2,_) =>
    qbv d n x2 (W64 (i1+1))
  else
   some (x1,i1)
def qb6 (n:Nat) (d:qd):Option (List Tplace) :=
 (qbv d n ([]:List Tplace) 0).bind fun o=>match o with
 | (x1,_) =>
  (qbx d n x1 0).bind fun o=>match o with
  | (x4,_) =>
   some x4
theorem qd9 {d:qd} (ha1:GoT.R w (old w) d cs1) {r:(List Tplace)} (hF:qb6 n d=some r):RetV Tryz.prog 135 [GoT.v qd cs1] w r:=by
 obtain ⟨p1,k1,p2,k2,p3,k3,rfl,s1,s2,s3⟩:=qap ha1
 refine zV 61 Tryz.func135 rfl fun h=>zSR (qu h rfl rfl fun w1 bb1 h=>X1 14 0 h rfl ?_)
 replace h:=h.nil (α:=Tplace)
 obtain ⟨o1,hF,hK1⟩:=qc hF
 refine ql (rL (fun m e w'=>∃ (S1:Nat→Prop) (p4:Option Addr) (ln1:Nat) (k4:Nat) (x1:(List Tplace)) (i1:Int),qbv d m x1 i1=some o1∧e=[(1,.pointer (some ⟨bb1,0,none⟩)),(3,.slice p4 ln1 k4),(11,.slice p1 d.Aa.length k1),(12,.int .i64 (d.Aa.length:Int)),(13,.int .i64 i1)]∧SH w w' [Ch.own S1 (x1:List Tplace) [.slice p4 ln1 k4],Ch.box bb1 (qaC d p1 p2 p3 k1 k2 k3) 47]) n ⟨_,_,_,_,_,_,hF,rfl,h⟩ rfl ?_)
 rintro m1 e1 w2 ⟨S1,p4,ln1,k4,x1,i1,hF,rfl,h⟩
 obtain rfl:=(h.sl 0 rfl).2
 rcases m1 with _|m1
 ·cases hF
 refine X0 5 rfl (qg rfl hF ?_ ?_)<;>intro hF
 ·refine X0 6 rfl ?_
  obtain ⟨y1,hy1,hF,he1,b1,_,q1,cs2,hp1,hq1,hr1,hc2⟩:=s1.ix hF
  obtain ⟨p5,k5,rfl,s4⟩:=qN hr1
  refine zxe hp1 hq1 he1 rfl (zc 0 (hc2.below h.below) rfl (qm qa h rfl rfl rfl fun w3 bb2 h=>zp1 rfl (zs 0 h rfl fun w4 h=>X1 8 0 h rfl ?_)))
  obtain ⟨o2,hF,hK2⟩:=qc hF
  refine ql (rL (fun m e w'=>∃ (S2:Nat→Prop) (p6:Option Addr) (ln2:Nat) (k6:Nat) (x2:(List Tplace)) (i2:Int),qbw i1 y1 m x2 i2=some o2∧e=[(1,.pointer (some ⟨bb1,0,none⟩)),(3,.slice p6 ln2 k6),(4,.int .i64 i1),(5,.pointer (some ⟨bb2,0,none⟩)),(11,.slice p1 d.Aa.length k1),(12,.int .i64 (d.Aa.length:Int)),(13,.int .i64 i1),(19,.slice p5 y1.Am.length k5),(20,.int .i64 (y1.Am.length:Int)),(21,.int .i64 i2)]∧SH w w' [Ch.box bb2 (qiZ y1 p5 k5) 168,Ch.own S2 (x2:List Tplace) [.slice p6 ln2 k6],Ch.box bb1 (qaC d p1 p2 p3 k1 k2 k3) 47]) m1 ⟨_,_,_,_,_,_,hF,rfl,h⟩ rfl ?_)
  rintro m2 e2 w5 ⟨S2,p6,ln2,k6,x2,i2,hF,rfl,h⟩
  obtain rfl:=(h.sl 1 rfl).2
  rcases m2 with _|m2
  ·cases hF
  refine X0 5 rfl (qg rfl hF ?_ ?_)<;>intro hF
  ·refine X0 6 rfl ?_
   obtain ⟨y2,hy2,hF,he2,b2,_,q2,cs3,hp2,hq2,rfl,hc4⟩:=s4.ix hF
   refine zxe hp2 hq2 he2 rfl (zc 0 (hc4.below h.below) rfl (X1 14 0 h rfl (r_v (qT qa [0,1,2,3] [.tmp 27,.tmp 28,.tmp 29,.tmp 35] rfl rfl rfl rfl rfl rfl rfl rfl) rfl (qO qa [.tmp 36] _ ([(⟨i1,i2,y2,(i2==(W64 ((y1.Am.length:Int)-1)))⟩:Tplace)]:List Tplace) h rfl rfl rfl rfl rfl rfl rfl rfl rfl ⟨(qlm (⟨i1,i2,y2,(i2==(W64 ((y1.Am.length:Int)-1)))⟩:Tplace)),trivial⟩ rfl fun w6 p7 S3 h=>?_))))
   obtain ⟨x3,hx1,hF⟩:=qc hF
   obtain ⟨g1,hx1⟩:=qar hx1
   refine qcM qa 2 h rfl (h.sl 0 rfl).1 (h.sl 0 rfl).2 rfl rfl rfl rfl rfl rfl rfl rfl rfl g1 hx1 rfl fun w7 p8 k7 S4 h=>X0 7 rfl ?_
   replace h:=h.pick [1,2,3] rfl
   exact rK ⟨_,_,_,_,_,_,hF,rfl,h⟩ rfl
  refine qr rfl ?_
  obtain rfl:=qb hF;replace hF:=hK2
  refine X0 5 rfl ?_
  replace h:=h.pick [1,2] rfl
  exact rK ⟨_,_,_,_,_,_,hF,rfl,h⟩ rfl
 refine qr rfl ?_
 obtain rfl:=qb hF;replace hF:=hK1
 refine X1 8 1 h rfl ?_
 obtain ⟨o3,hF,hK3⟩:=qc hF
 refine ql ?_
 replace h:=h.pick [0] rfl
 refine rL (fun m e w'=>∃ (S5:Nat→Prop) (p9:Option Addr) (ln3:Nat) (k8:Nat) (x4:(List Tplace)) (i3:Int),qbx d m x4 i3=some o3∧e=[(3,.slice p9 ln3 k8),(42,.slice p3 d.Aj.length k3),(43,.int .i64 (d.Aj.length:Int)),(44,.int .i64 i3)]∧SH w w' [Ch.own S5 (x4:List Tplace) [.slice p9 ln3 k8]]) n ⟨_,_,_,_,_,_,hF,rfl,h⟩ rfl ?_
 rintro m3 e3 w8 ⟨S5,p9,ln3,k8,x4,i3,hF,rfl,h⟩
 obtain rfl:=(h.sl 0 rfl).2
 rcases m3 with _|m3
 ·cases hF
 refine X0 5 rfl (qg rfl hF ?_ ?_)<;>intro hF
 ·refine X0 6 rfl ?_
  obtain ⟨y3,hy3,hF,he3,b3,_,q3,cs4,hp3,hq3,hr3,hc6⟩:=s3.ix hF
  obtain rfl:=qa8 hr3
  refine zxe hp3 hq3 he3 rfl (zc 0 (hc6.below h.below) rfl (qm qa h rfl rfl rfl fun w9 bb3 h=>zp1 rfl (zs 0 h rfl fun w10 h=>X2 9 0 0 h rfl (r_v (qT qa [0,1,2,3] [.const (.int .i64 (-1)),.tmp 50,.tmp 52,.tmp 55] rfl rfl rfl rfl rfl rfl rfl rfl) rfl (qO qa [.tmp 56] _ ([(⟨(-1),i3,y3.Bx,(y3.Bv==1)⟩:Tplace)]:List Tplace) h rfl rfl rfl rfl rfl rfl rfl rfl rfl ⟨(qlm (⟨(-1),i3,y3.Bx,(y3.Bv==1)⟩:Tplace)),trivial⟩ rfl fun w11 p10 S6 h=>?_)))))
  obtain ⟨x5,hx2,hF⟩:=qc hF
  obtain ⟨g2,hx2⟩:=qar hx2
  refine qcM qa 2 h rfl (h.sl 0 rfl).1 (h.sl 0 rfl).2 rfl rfl rfl rfl rfl rfl rfl rfl rfl g2 hx2 rfl fun w12 p11 k9 S7 h=>X0 7 rfl ?_
  replace h:=h.pick [2] rfl
  exact rK ⟨_,_,_,_,_,_,hF,rfl,h⟩ rfl
 refine qr rfl ?_
 obtain rfl:=qb hF;replace hF:=hK3
 refine X0 5 rfl ?_
 obtain rfl:=qb hF
 exact rO 0 h rfl ⟨rfl,trivial⟩
def qaV (a_w:qQ):Nat→Int→Option (Flow Bool Int)
 | 0,_=>none
 | n+1,i1 =>
  bif decide (i1<(a_w.Ak.length:Int)) then
   (idx a_w.Ak i1).bind fun y1 =>
   bif (i1==0) then
    bif (y1 != (-1)) then some (.ret false) else
    (idx a_w.Bw 0).bind fun y2 =>
    bif (y2 != 0) then some (.ret false) else
    bif decide (i1 > 0) then
     (qaG n y1 0 (W64 (i1-1))).bind fun r1 =>
     bif (!r1) then some (.ret false) else
     qaV a_w n (W64 (i1+1))
    else
     qaV a_w n (W64 (i1+1))
   else
    bif decide (i1 > 0) then
     (qaG n y1 0 (W64 (i1-1))).bind fun r2 =>
     bif (!r2) then some (.ret false) else
     qaV a_w n (W64 (i1+1))
    else
     qaV a_w n (W64 (i1+1))
  else
   some (.nxt i1)
def qgI (n:Nat) (a_w:qQ):Option Bool :=
 (qaV a_w n 0).bind fun o=>match o with
 | .ret r=>some r
 | .nxt _ =>
  some true
theorem qm4 {a_w:qQ} (ha1:GoT.R w (old w) a_w cs1) {r:Bool} (hF:qgI n a_w=some r):RetV Tryz.prog 176 [GoT.v qQ cs1] w r:=by
 obtain ⟨p1,k1,p2,k2,p3,k3,p4,k4,rfl,s1,s2,s3,s4⟩:=qaD ha1
 refine zV 38 Tryz.func176 rfl fun h=>zSR (qu h rfl rfl fun w1 bb1 h=>X1 10 0 h rfl ?_)
 obtain ⟨o1,hF,hK1⟩:=qc hF
 refine ql (rL (fun m e w'=>∃ (i1:Int),qaV a_w m i1=some o1∧e=[(1,.pointer (some ⟨bb1,0,none⟩)),(6,.slice p1 a_w.Ak.length k1),(7,.int .i64 (a_w.Ak.length:Int)),(8,.int .i64 i1)]∧SH w w' [Ch.box bb1 (qf1 a_w p1 p2 p3 p4 k1 k2 k3 k4) 186]) n ⟨_,hF,rfl,h⟩ rfl ?_)
 rintro m1 e1 w2 ⟨i1,hF,rfl,h⟩
 rcases m1 with _|m1
 ·cases hF
 refine X0 5 rfl (qg rfl hF ?_ ?_)<;>intro hF
 ·refine X0 6 rfl ?_
  obtain ⟨y1,hy1,hF,he1,b1,_,q1,cs2,hp1,hq1,rfl,hc2⟩:=s1.ix hF
  refine zxe hp1 hq1 he1 rfl (zc 0 (hc2.below h.below) rfl (X0 8 rfl (qi (t:=15) hF rfl ?_ ?_)))<;>intro hF
  ·refine X0 6 rfl (qi (t:=18) hF rfl ?_ ?_)<;>intro hF
   ·refine X0 20 rfl (qbW rfl rfl (X0 4 rfl ?_))
    obtain rfl:=qb hF;replace hF:=hK1
    exact rb h hF rfl
   refine X1 5 0 h rfl ?_
   obtain ⟨y2,hy2,hF,he2,b2,_,q2,cs3,hp2,hq2,rfl,hc3⟩:=s2.ix hF
   refine zxe hp2 hq2 he2 rfl (X0 1 rfl (zc 0 (hc3.below h.below) rfl (X0 6 rfl (qi (t:=26) hF rfl ?_ ?_))))<;>intro hF
   ·refine X0 11 rfl (qbW rfl rfl (X0 4 rfl ?_))
    obtain rfl:=qb hF;replace hF:=hK1
    exact rb h hF rfl
   refine X0 6 rfl (qi (t:=29) hF rfl ?_ ?_)<;>intro hF
   ·refine X0 7 rfl (zcB h hF qau rfl fun r1 w3 h hF=>X0 6 rfl (qg rfl hF ?_ ?_))<;>intro hF
    ·refine X0 4 rfl ?_
     obtain rfl:=qb hF;replace hF:=hK1
     exact rb h hF rfl
    exact X0 6 rfl (rK ⟨_,hF,rfl,h⟩ rfl)
   exact X0 9 rfl (qci rfl rfl (X0 6 rfl (rK ⟨_,hF,rfl,h⟩ rfl)))
  refine X0 17 rfl (qi (t:=29) hF rfl ?_ ?_)<;>intro hF
  ·refine X0 7 rfl (zcB h hF qau rfl fun r2 w4 h hF=>X0 6 rfl (qg rfl hF ?_ ?_))<;>intro hF
   ·refine X0 4 rfl ?_
    obtain rfl:=qb hF;replace hF:=hK1
    exact rb h hF rfl
   exact X0 6 rfl (rK ⟨_,hF,rfl,h⟩ rfl)
  exact X0 9 rfl (qci rfl rfl (X0 6 rfl (rK ⟨_,hF,rfl,h⟩ rfl)))
 refine qr rfl ?_
 obtain rfl:=qb hF;replace hF:=hK1
 exact X0 4 rfl (rb h hF rfl)
def qkF (n:Nat) (a_w:qQ) (sinks:Int):Option Bool :=
 (qa9 n a_w.Ak).bind fun r1 =>
 (qaG n r1 1 8).bind fun r2 =>
 bif r2 then
  (qa9 n a_w.Bw).bind fun r3 =>
  bif (r3==r1) then
   (qa9 n a_w.Bt).bind fun r4 =>
   bif (r4==r1) then
    (qgI n a_w).bind fun r5 =>
    bif r5 then
     (qbF n a_w.Bw 0 1000).bind fun r6 =>
     bif r6 then
      (qbF n a_w.Bt 0 500).bind fun r7 =>
      bif r7 then
       (qa9 n a_w.Bl).bind fun r8 =>
       bif (r8==sinks) then
        (qbF n a_w.Bl 0 (W64 (r1-1))).bind fun r9 =>
        some r9
       else
        some false
      else
       some false
     else
      some false
    else
     some false
   else
    some false
  else
   some false
 else
  some false
theorem qpz {a_w:qQ} {sinks:Int} (ha1:GoT.R w (old w) a_w cs1) {r:Bool} (hF:qkF n a_w sinks=some r):RetV Tryz.prog 136 [GoT.v qQ cs1,.int .i64 sinks] w r:=by
 obtain ⟨p1,k1,p2,k2,p3,k3,p4,k4,rfl,s1,s2,s3,s4⟩:=qaD ha1
 refine zV 53 Tryz.func136 rfl fun h=>zSR (qu h rfl rfl fun w1 bb1 h=>X1 6 0 h rfl (zcI h hF (qce ⟨_,_,rfl,(h.oldS s1)⟩) rfl fun r1 w2 h hF=>X0 5 rfl (zcB h hF qau rfl fun r2 w3 h hF=>zp1 rfl (qi (t:=11) hF rfl ?_ ?_))))<;>intro hF
 ·refine X1 5 0 h rfl (zcI h hF (qce ⟨_,_,rfl,(h.oldS s2)⟩) rfl fun r3 w4 h hF=>X0 6 rfl (qi (t:=18) hF rfl ?_ ?_))<;>intro hF
  ·refine X1 5 0 h rfl (zcI h hF (qce ⟨_,_,rfl,(h.oldS s3)⟩) rfl fun r4 w5 h hF=>X0 6 rfl (qi (t:=25) hF rfl ?_ ?_))<;>intro hF
   ·refine X1 3 0 h rfl (zcB h hF (qm4 (h.old ha1)) rfl fun r5 w6 h hF=>zp2 rfl (qi (t:=29) hF rfl ?_ ?_))<;>intro hF
    ·refine X1 5 0 h rfl (zcB h hF (qbY ⟨_,_,rfl,(h.oldS s2)⟩) rfl fun r6 w7 h hF=>zp2 rfl (qi (t:=34) hF rfl ?_ ?_))<;>intro hF
     ·refine X1 5 0 h rfl (zcB h hF (qbY ⟨_,_,rfl,(h.oldS s3)⟩) rfl fun r7 w8 h hF=>zp2 rfl (qi (t:=39) hF rfl ?_ ?_))<;>intro hF
      ·refine X1 5 0 h rfl (zcI h hF (qce ⟨_,_,rfl,(h.oldS s4)⟩) rfl fun r8 w9 h hF=>X0 6 rfl (qi (t:=46) hF rfl ?_ ?_))<;>intro hF
       ·exact X1 9 0 h rfl (zcB h hF (qbY ⟨_,_,rfl,(h.oldS s4)⟩) rfl fun r9 w10 h hF=>X0 3 rfl (rb h hF rfl))
       exact X0 8 rfl (rb h hF rfl)
      exact X0 15 rfl (rb h hF rfl)
     exact X0 20 rfl (rb h hF rfl)
    exact X0 25 rfl (rb h hF rfl)
   exact X0 29 rfl (rb h hF rfl)
  exact X0 36 rfl (rb h hF rfl)
 exact X0 43 rfl (rb h hF rfl)
def qej (b:qf) (x2:(List Int)):Nat→Int→Option (Flow Bool Int)
 | 0,_=>none
 | n+1,i2 =>
  bif decide (i2<(b.Ac.length:Int)) then
   (idx b.Ac i2).bind fun y4 =>
   (idx x2 i2).bind fun y5 =>
   (qkF n y4 y5).bind fun r2 =>
   bif (!r2) then some (.ret false) else
   qej b x2 n (W64 (i2+1))
  else
   some (.nxt i2)
def qcK (r1:(List Tplace)):Nat→(List Int)→Int→Option ((List Int) × Int)
 | 0,_,_=>none
 | n+1,x2,i1 =>
  bif decide (i1<(r1.length:Int)) then
   (idx r1 i1).bind fun y1 =>
   bif (!y1.drives) then
    (idx x2 y1.net).bind fun y2 =>
    (idx x2 y1.net).bind fun _ =>
    qcK r1 n (setS x2 y1.net (W64 (y2+1))) (W64 (i1+1))
   else
    qcK r1 n x2 (W64 (i1+1))
  else
   some (x2,i1)
def qhX (n:Nat) (b:qf):Option Bool :=
 (
  (qiz n (⟨b.Av.Aq⟩:qp) (⟨b.Ab.Aa,b.Ab.Am,b.Ab.Aj⟩:qd)).bind fun r3 =>
  bif (!r3) then some true else
  some ((b.Ac.length:Int) != (b.Ab.Am.length:Int))).bind fun b1 =>
 bif b1 then some false else
 (mkS (b.Ac.length:Int) (0:Int)).bind fun x1 =>
 (qb6 n (⟨b.Ab.Aa,b.Ab.Am,b.Ab.Aj⟩:qd)).bind fun r1 =>
 (qcK r1 n x1 0).bind fun o=>match o with
 | (x2,_) =>
  (qej b x2 n 0).bind fun o=>match o with
  | .ret r=>some r
  | .nxt _ =>
   some true
theorem qoW {b:qf} (ha1:GoT.R w (old w) b cs1) {r:Bool} (hF:qhX n b=some r):RetV Tryz.prog 93 [GoT.v qf cs1] w r:=by
 obtain ⟨p1,k1,p2,k2,p3,k3,p4,k4,p5,k5,rfl,s1,s2,s3,s4,s5⟩:=qV ha1
 refine zV 63 Tryz.func93 rfl fun h=>zSR (qu h rfl rfl fun w1 bb1 h=>X0 4 rfl ?_)
 obtain ⟨KF1,hKF1,o3,hF,hK3⟩:=bindE hF
 refine qba (fun e w'=>∃ (b1:Bool),KF1 b1=some r∧e=[(1,.pointer (some ⟨bb1,0,none⟩)),(23,.bool b1)]∧SH w w' [Ch.box bb1 (qaI b p1 p2 p3 p4 p5 k1 k2 k3 k4 k5) 50]) ?_ ?_
 ·refine X2 5 0 0 h rfl (zcB h hF (qoq (qdG _ (h.oldS s1)) (qal _ (h.oldS s2) (h.oldS s3) (h.oldS s4))) rfl fun r3 w12 h hF=>zp2 rfl (qi (t:=14) hF rfl ?_ ?_))<;>intro hF
  ·refine X0 10 rfl ?_
   obtain rfl:=qb hF
   exact rG ⟨_,hK3,rfl,h⟩ rfl
  refine X2 18 0 0 h rfl ?_
  obtain rfl:=qb hF
  exact rG ⟨_,hK3,rfl,h⟩ rfl
 rintro e3 w13 ⟨b1,hF,rfl,h⟩
 subst hKF1
 refine qg rfl hF ?_ ?_<;>intro hF
 ·exact X0 4 rfl (rb h hF rfl)
 refine X1 6 0 h rfl ?_
 obtain ⟨x1,hx1,hF⟩:=qc hF
 obtain ⟨g1,g2,hx1⟩:=qJ hx1
 refine qad qa Int h rfl rfl rfl rfl rfl rfl rfl rfl rfl g1 g2 hx1 rfl fun w2 S1 p6 h=>X1 7 1 h rfl (zcL h hF (qd9 (qal _ (h.oldS s2) (h.oldS s3) (h.oldS s4))) rfl fun r1 w3 S2 p7 k6 h hF=>X0 3 rfl ?_)
 obtain ⟨o1,hF,hK1⟩:=qc hF
 refine ql (rL (fun m e w'=>∃ (x2:(List Int)) (i1:Int),qcK r1 m x2 i1=some o1∧e=[(1,.pointer (some ⟨bb1,0,none⟩)),(3,.slice p6 x1.length x1.length),(30,.slice p7 r1.length k6),(31,.int .i64 (r1.length:Int)),(32,.int .i64 i1)]∧SH w w' [Ch.own S2 (r1:List Tplace) [.slice p7 r1.length k6],Ch.own S1 (x2:List Int) [.slice p6 x1.length x1.length],Ch.box bb1 (qaI b p1 p2 p3 p4 p5 k1 k2 k3 k4 k5) 50]) n ⟨_,_,hF,rfl,h⟩ rfl ?_)
 rintro m1 e1 w4 ⟨x2,i1,hF,rfl,h⟩
 rcases m1 with _|m1
 ·cases hF
 refine X0 5 rfl (qg rfl hF ?_ ?_)<;>intro hF
 ·refine zKSBSR ?_
  obtain ⟨y1,hy1,hF,he1,b2,_,q1,cs2,hp1,hq1,hr2,hc3⟩:=(h.sl 0 rfl).1.ix hF
  obtain rfl:=qgr hr2
  refine zx hp1 hq1 ⟨he1.1,qH he1.2.1 (h.sl 0 rfl).2⟩ rfl (zc 0 hc3 rfl (qm qa h rfl rfl rfl fun w5 bb2 h=>zs 0 h rfl fun w6 h=>X1 7 0 h rfl (qg rfl hF ?_ ?_)))<;>intro hF
  ·refine X1 4 0 h rfl ?_
   obtain ⟨y2,hy2,hF,he2,b3,_,q2,cs3,hp2,hq2,rfl,hc5⟩:=(h.sl 2 rfl).1.ix hF
   refine zx hp2 hq2 ⟨he2.1,qH he2.2.1 (h.sl 2 rfl).2⟩ rfl (zc 0 hc5 rfl (zp1 rfl ?_))
   obtain ⟨y3,hy3,hF,he3,b4,_,q3,cs4,hp3,hq3,rfl,hc6⟩:=(h.sl 2 rfl).1.ix hF
   refine zx hp3 hq3 ⟨he3.1,qH he3.2.1 (h.sl 2 rfl).2⟩ rfl (qaW qa 2 0 (W64 (y2+1)) h rfl hy3 hp3 hq3 rfl hc6 rfl rfl rfl rfl rfl rfl rfl fun w7 h=>X0 6 rfl ?_)
   replace h:=h.pick [1,2,3] rfl
   exact rK ⟨_,_,hF,rfl,h⟩ rfl
  refine X0 6 rfl ?_
  replace h:=h.pick [1,2,3] rfl
  exact rK ⟨_,_,hF,rfl,h⟩ rfl
 refine qr rfl ?_
 obtain rfl:=qb hF;replace hF:=hK1
 refine X1 8 2 h rfl ?_
 obtain ⟨o2,hF,hK2⟩:=qc hF
 refine ql ?_
 replace h:=h.pick [1] rfl
 refine rL (fun m e w'=>∃ (i2:Int),qej b x2 m i2=some o2∧e=[(3,.slice p6 x1.length x1.length),(48,.slice p5 b.Ac.length k5),(49,.int .i64 (b.Ac.length:Int)),(50,.int .i64 i2)]∧SH w w' [Ch.own S1 (x2:List Int) [.slice p6 x1.length x1.length]]) n ⟨_,hF,rfl,h⟩ rfl ?_
 rintro m2 e2 w8 ⟨i2,hF,rfl,h⟩
 rcases m2 with _|m2
 ·cases hF
 refine X0 5 rfl (qg rfl hF ?_ ?_)<;>intro hF
 ·refine X0 6 rfl ?_
  obtain ⟨y4,hy4,hF,he4,b5,_,q4,cs5,hp4,hq4,hr5,hc8⟩:=s5.ix hF
  obtain ⟨p8,k7,p9,k8,p10,k9,p11,k10,rfl,s6,s7,s8,s9⟩:=qaD hr5
  refine zxe hp4 hq4 he4 rfl (zc 0 (hc8.below h.below) rfl (qm qa h rfl rfl rfl fun w9 bb3 h=>zp1 rfl (zs 0 h rfl fun w10 h=>zNS (rD (Y1 1 0 h rfl ?_)))))
  refine zd2 rfl ?_
  obtain ⟨y5,hy5,hF,he5,b6,_,q5,cs6,hp5,hq5,rfl,hc9⟩:=(h.sl 1 rfl).1.ix hF
  refine zdx hp5 hq5 ⟨he5.1,qH he5.2.1 (h.sl 1 rfl).2⟩ rfl (zdc 0 hc9 rfl ?_)
  obtain ⟨r2,hr7,hF⟩:=qc hF
  refine qbb r2 (vsB _) (cB 136 rfl) (fun _ hb=>qpz (qjE y4 ((h.ext hb).oldS s6) ((h.ext hb).oldS s7) ((h.ext hb).oldS s8) ((h.ext hb).oldS s9)) hr7) rfl rfl rfl rfl (zd1 rfl (dN h fun w11 h=>qg rfl hF ?_ ?_))<;>intro hF
  ·refine X0 4 rfl ?_
   obtain rfl:=qb hF;replace hF:=hK2
   exact rb h hF rfl
  refine X0 6 rfl ?_
  replace h:=h.pick [1] rfl
  exact rK ⟨_,hF,rfl,h⟩ rfl
 refine qr rfl ?_
 obtain rfl:=qb hF;replace hF:=hK2
 exact X0 4 rfl (rb h hF rfl)
end Go.Fw


namespace Go.Fw
open Go
def qc9 (a:(List Int)):Nat:=a.length
theorem qdI {a:(List Int)} (h:(rngL rngI) a) (w:qc9 a≤1048576):(okL okI) a :=
 ⟨by simp only [qc9] at w;omega,fun x hx=>h.2 x hx⟩
def qho (x:qv):Prop:=(rngL rngI) x.Bm∧(rngL rngI) x.Bj∧(rngL rngI) x.Bi
def qfk (x:qv):Nat:=qc9 x.Bm+qc9 x.Bj+qc9 x.Bi
structure qie (x:qv):Prop where
 Bm:(okL okI) x.Bm
 Bj:(okL okI) x.Bj
 Bi:(okL okI) x.Bi
theorem qtp {x:qv} (h:qho x) (w:qfk x≤1048576):qie x:=⟨qdI (h.1) (by simp only [qfk] at w;omega),qdI (h.2.1) (by simp only [qfk] at w;omega),qdI (h.2.2) (by simp only [qfk] at w;omega)⟩
def qfB (a:(List qv)):Nat:=a.length+(a.map fun x=>qfk x).sum
theorem qoI {a:(List qv)} (h:(rngL qho) a) (w:qfB a≤1048576):(okL qie) a :=
 ⟨by simp only [qfB] at w;omega,fun x hx=>qtp (h.2 x hx) (by have:=qea (wt:=fun x:qv=>qfk x) hx;simp only [qfB] at w;omega)⟩
def qlJ (x:qP):Prop:=rngI x.Be∧rngI x.Bk∧rngI x.To∧rngI x.Bn∧(rngL qho) x.Bp∧(rngL qho) x.Bd
def qkl (x:qP):Nat:=qfB x.Bp+qfB x.Bd
structure qnh (x:qP):Prop where
 Be:okI x.Be
 Bk:okI x.Bk
 To:okI x.To
 Bn:okI x.Bn
 Bp:(okL qie) x.Bp
 Bd:(okL qie) x.Bd
theorem qvC {x:qP} (h:qlJ x) (w:qkl x≤1048576):qnh x:=⟨h.1,h.2.1,h.2.2.1,h.2.2.2.1,qoI (h.2.2.2.2.1) (by simp only [qkl] at w;omega),qoI (h.2.2.2.2.2) (by simp only [qkl] at w;omega)⟩
theorem qfS {a:(List Int)} (h:qc9 a≤1048576):Ev (fun n=>qbu n a a) true:=by
 have hl:a.length≤1048576:=by simp only [qc9] at h;omega
 unfold qbu
 exact Ev.ff (by simp) (Ev.bind (b:=.nxt (a.length:Int)) (qix (eqf:=fun _ x y=>some (!(x != y))) (fun x _=>Ev.now (by simp))
  (fun n=>by simp only [qe4,qk (jb _),cond_false])
  (fun n j x hx=>by
   have hj:=(List.getElem?_eq_some_iff.1 hx).1
   simp only [qe4,qj hj,cond_true,qaq hx,ja,Bool.not_not,wS j])) .done)
theorem qvU {a:qv} (h:qfk a≤1048576):Ev (fun n=>qhC n a a) true:=by
 unfold qhC
 simp only [qfk] at h
 exact Ev.bind (qfS (a:=a.Bm) (by omega)) (Ev.ff rfl (Ev.bind (qfS (a:=a.Bj) (by omega)) (Ev.ff rfl (Ev.bind (qfS (a:=a.Bi) (by omega)) (Ev.ff rfl (.done))))))
theorem qqO {a:(List qv)} (h:qfB a≤1048576):Ev (fun n=>qgW n a a) true:=by
 have hl:a.length≤1048576:=by simp only [qfB] at h;omega
 unfold qgW
 exact Ev.ff (by simp) (Ev.bind (b:=.nxt (a.length:Int)) (qix (eqf:=qhC) (fun x hx=>qvU (by have:=qea (wt:=fun x:qv=>qfk x) hx;simp only [qfB] at h;omega))
  (fun n=>by simp only [qe5,qk (jb _),cond_false])
  (fun n j x hx=>by
   have hj:=(List.getElem?_eq_some_iff.1 hx).1
   simp only [qe5,qj hj,cond_true,qaq hx,ja,wS j])) .done)
theorem qxj {a:qP} (h:qkl a≤1048576):Ev (fun n=>qjW n a a) true:=by
 unfold qjW
 simp only [qkl] at h
 exact Ev.ff qaL (Ev.ff qaL (Ev.ff qaL (Ev.ff qaL (Ev.bind (qqO (a:=a.Bp) (by omega)) (Ev.ff rfl (Ev.bind (qqO (a:=a.Bd) (by omega)) (Ev.ff rfl (.done))))))))
def qjP (a:(List qP)):Nat:=a.length+(a.map fun x=>qkl x).sum
theorem qui {a:(List qP)} (h:(rngL qlJ) a) (w:qjP a≤1048576):(okL qnh) a :=
 ⟨by simp only [qjP] at w;omega,fun x hx=>qvC (h.2 x hx) (by have:=qea (wt:=fun x:qP=>qkl x) hx;simp only [qjP] at w;omega)⟩
theorem qwA {a:(List qP)} (h:qjP a≤1048576):Ev (fun n=>qkG n a a) true:=by
 have hl:a.length≤1048576:=by simp only [qjP] at h;omega
 unfold qkG
 exact Ev.ff (by simp) (Ev.bind (b:=.nxt (a.length:Int)) (qix (eqf:=qjW) (fun x hx=>qxj (by have:=qea (wt:=fun x:qP=>qkl x) hx;simp only [qjP] at h;omega))
  (fun n=>by simp only [qgh,qk (jb _),cond_false])
  (fun n j x hx=>by
   have hj:=(List.getElem?_eq_some_iff.1 hx).1
   simp only [qgh,qj hj,cond_true,qaq hx,ja,wS j])) .done)
def qlG (x:qan):Prop:=rngS x.Ba∧rngI x.Bv∧rngI x.Bt∧rngB x.Bq
def qmq (x:qan):Nat:=x.Ba.size
structure qmy (x:qan):Prop where
 Ba:okS x.Ba
 Bv:okI x.Bv
 Bt:okI x.Bt
 Bq:okT x.Bq
theorem qv4 {x:qan} (h:qlG x) (w:qmq x≤1048576):qmy x:=⟨(by unfold okS;simp only [qmq] at w;omega),h.2.1,h.2.2.1,trivial⟩
def qjY (a:(List qan)):Nat:=a.length+(a.map fun x=>qmq x).sum
theorem quf {a:(List qan)} (h:(rngL qlG) a) (w:qjY a≤1048576):(okL qmy) a :=
 ⟨by simp only [qjY] at w;omega,fun x hx=>qv4 (h.2 x hx) (by have:=qea (wt:=fun x:qan=>qmq x) hx;simp only [qjY] at w;omega)⟩
def qj9 (x:qB):Prop:=rngS x.Ba∧rngI x.Be∧(rngL qlG) x.Bc∧(rngL qlJ) x.Ar∧(rngL rngI) x.Br∧rngI x.Ca∧rngI x.Bu
def qgN (x:qB):Nat:=x.Ba.size+qjY x.Bc+qjP x.Ar+qc9 x.Br
structure qmU (x:qB):Prop where
 Ba:okS x.Ba
 Be:okI x.Be
 Bc:(okL qmy) x.Bc
 Ar:(okL qnh) x.Ar
 Br:(okL okI) x.Br
 Ca:okI x.Ca
 Bu:okI x.Bu
theorem qtR {x:qB} (h:qj9 x) (w:qgN x≤1048576):qmU x:=⟨(by unfold okS;simp only [qgN] at w;omega),h.2.1,quf (h.2.2.1) (by simp only [qgN] at w;omega),qui (h.2.2.2.1) (by simp only [qgN] at w;omega),qdI (h.2.2.2.2.1) (by simp only [qgN] at w;omega),h.2.2.2.2.2.1,h.2.2.2.2.2.2⟩
def qh4 (a:(List qB)):Nat:=a.length+(a.map fun x=>qgN x).sum
theorem qsP {a:(List qB)} (h:(rngL qj9) a) (w:qh4 a≤1048576):(okL qmU) a :=
 ⟨by simp only [qh4] at w;omega,fun x hx=>qtR (h.2 x hx) (by have:=qea (wt:=fun x:qB=>qgN x) hx;simp only [qh4] at w;omega)⟩
def qkE (x:qp):Prop:=(rngL qj9) x.Aq
def qgF (x:qp):Nat:=qh4 x.Aq
structure qhl (x:qp):Prop where
 Aq:(okL qmU) x.Aq
theorem qrC {x:qp} (h:qkE x) (w:qgF x≤1048576):qhl x:=⟨qsP (h) (by simp only [qgF] at w;omega)⟩
def qfj (x:qn):Prop:=rngS x.Ba∧rngI x.Bs∧(rngL rngI) x.Am
def qcp (x:qn):Nat:=x.Ba.size+qc9 x.Am
structure ql8 (x:qn):Prop where
 Ba:okS x.Ba
 Bs:okI x.Bs
 Am:(okL okI) x.Am
theorem qqC {x:qn} (h:qfj x) (w:qcp x≤1048576):ql8 x:=⟨(by unfold okS;simp only [qcp] at w;omega),h.2.1,qdI (h.2.2) (by simp only [qcp] at w;omega)⟩
def qc5 (a:(List qn)):Nat:=a.length+(a.map fun x=>qcp x).sum
theorem qqh {a:(List qn)} (h:(rngL qfj) a) (w:qc5 a≤1048576):(okL ql8) a :=
 ⟨by simp only [qc5] at w;omega,fun x hx=>qqC (h.2 x hx) (by have:=qea (wt:=fun x:qn=>qcp x) hx;simp only [qc5] at w;omega)⟩
def qgB (a:(List ByteArray)):Nat:=a.length+(a.map fun x=>x.size).sum
theorem qrs {a:(List ByteArray)} (_:(rngL rngS) a) (w:qgB a≤1048576):(okL okS) a :=
 ⟨by simp only [qgB] at w;omega,fun x hx=>(by unfold okS;have:=qea (wt:=fun x:ByteArray=>x.size) hx;simp only [qgB] at w;omega)⟩
def qj3 (x:qah):Prop:=rngS x.Ba∧rngI x.Bv∧rngI x.Bx
def qjM (x:qah):Nat:=x.Ba.size
structure qrz (x:qah):Prop where
 Ba:okS x.Ba
 Bv:okI x.Bv
 Bx:okI x.Bx
theorem qt1 {x:qah} (h:qj3 x) (w:qjM x≤1048576):qrz x:=⟨(by unfold okS;simp only [qjM] at w;omega),h.2.1,h.2.2⟩
def qhL (a:(List qah)):Nat:=a.length+(a.map fun x=>qjM x).sum
theorem qsW {a:(List qah)} (h:(rngL qj3) a) (w:qhL a≤1048576):(okL qrz) a :=
 ⟨by simp only [qhL] at w;omega,fun x hx=>qt1 (h.2 x hx) (by have:=qea (wt:=fun x:qah=>qjM x) hx;simp only [qhL] at w;omega)⟩
def qlO (x:qd):Prop:=(rngL qfj) x.Aa∧(rngL rngS) x.Am∧(rngL qj3) x.Aj
def qgg (x:qd):Nat:=qc5 x.Aa+qgB x.Am+qhL x.Aj
structure qjB (x:qd):Prop where
 Aa:(okL ql8) x.Aa
 Am:(okL okS) x.Am
 Aj:(okL qrz) x.Aj
theorem qrZ {x:qd} (h:qlO x) (w:qgg x≤1048576):qjB x:=⟨qqh (h.1) (by simp only [qgg] at w;omega),qrs (h.2.1) (by simp only [qgg] at w;omega),qsW (h.2.2) (by simp only [qgg] at w;omega)⟩
def qjU (x:qQ):Prop:=(rngL rngI) x.Ak∧(rngL rngI) x.Bw∧(rngL rngI) x.Bt∧(rngL rngI) x.Bl
def qgO (x:qQ):Nat:=qc9 x.Ak+qc9 x.Bw+qc9 x.Bt+qc9 x.Bl
structure qn3 (x:qQ):Prop where
 Ak:(okL okI) x.Ak
 Bw:(okL okI) x.Bw
 Bt:(okL okI) x.Bt
 Bl:(okL okI) x.Bl
theorem que {x:qQ} (h:qjU x) (w:qgO x≤1048576):qn3 x:=⟨qdI (h.1) (by simp only [qgO] at w;omega),qdI (h.2.1) (by simp only [qgO] at w;omega),qdI (h.2.2.1) (by simp only [qgO] at w;omega),qdI (h.2.2.2) (by simp only [qgO] at w;omega)⟩
def qhZ (a:(List qQ)):Nat:=a.length+(a.map fun x=>qgO x).sum
theorem qtc {a:(List qQ)} (h:(rngL qjU) a) (w:qhZ a≤1048576):(okL qn3) a :=
 ⟨by simp only [qhZ] at w;omega,fun x hx=>que (h.2 x hx) (by have:=qea (wt:=fun x:qQ=>qgO x) hx;simp only [qhZ] at w;omega)⟩
def qmR (x:qf):Prop:=qkE x.Av∧qlO x.Ab∧(rngL qjU) x.Ac
def qhw (x:qf):Nat:=qgF x.Av+qgg x.Ab+qhZ x.Ac
structure qli (x:qf):Prop where
 Av:qhl x.Av
 Ab:qjB x.Ab
 Ac:(okL qn3) x.Ac
theorem qtn {x:qf} (h:qmR x) (w:qhw x≤1048576):qli x:=⟨qrC (h.1) (by simp only [qhw] at w;omega),qrZ (h.2.1) (by simp only [qhw] at w;omega),qtc (h.2.2) (by simp only [qhw] at w;omega)⟩
theorem qxL {a:qan} (_:qmq a≤1048576):Ev (fun n=>qjS n a a) true:=by
 unfold qjS
 exact Ev.ff qhD (Ev.ff qaL (Ev.ff qaL (Ev.ff qrT (.done))))
theorem qv8 {a:(List qan)} (h:qjY a≤1048576):Ev (fun n=>qkC n a a) true:=by
 have hl:a.length≤1048576:=by simp only [qjY] at h;omega
 unfold qkC
 exact Ev.ff (by simp) (Ev.bind (b:=.nxt (a.length:Int)) (qix (eqf:=qjS) (fun x hx=>qxL (by have:=qea (wt:=fun x:qan=>qmq x) hx;simp only [qjY] at h;omega))
  (fun n=>by simp only [qga,qk (jb _),cond_false])
  (fun n j x hx=>by
   have hj:=(List.getElem?_eq_some_iff.1 hx).1
   simp only [qga,qj hj,cond_true,qaq hx,ja,wS j])) .done)
theorem qwr {a:qB} (h:qgN a≤1048576):Ev (fun n=>qiX n a a) true:=by
 unfold qiX
 simp only [qgN] at h
 exact Ev.ff qhD (Ev.ff qaL (Ev.bind (qv8 (a:=a.Bc) (by omega)) (Ev.ff rfl (Ev.bind (qwA (a:=a.Ar) (by omega)) (Ev.ff rfl (Ev.bind (qfS (a:=a.Br) (by omega)) (Ev.ff rfl (Ev.ff qaL (Ev.ff qaL (.done))))))))))
theorem qvc {a:(List qB)} (h:qh4 a≤1048576):Ev (fun n=>qjq n a a) true:=by
 have hl:a.length≤1048576:=by simp only [qh4] at h;omega
 unfold qjq
 exact Ev.ff (by simp) (Ev.bind (b:=.nxt (a.length:Int)) (qix (eqf:=qiX) (fun x hx=>qwr (by have:=qea (wt:=fun x:qB=>qgN x) hx;simp only [qh4] at h;omega))
  (fun n=>by simp only [qfz,qk (jb _),cond_false])
  (fun n j x hx=>by
   have hj:=(List.getElem?_eq_some_iff.1 hx).1
   simp only [qfz,qj hj,cond_true,qaq hx,ja,wS j])) .done)
theorem qtl {a:qp} (h:qgF a≤1048576):Ev (fun n=>qhI n a a) true:=by
 unfold qhI
 simp only [qgF] at h
 exact Ev.bind (qvc (a:=a.Aq) (by omega)) (Ev.ff rfl (.done))
theorem qsw {a:qn} (h:qcp a≤1048576):Ev (fun n=>qfF n a a) true:=by
 unfold qfF
 simp only [qcp] at h
 exact Ev.ff qhD (Ev.ff qaL (Ev.bind (qfS (a:=a.Am) (by omega)) (Ev.ff rfl (.done))))
theorem qrQ {a:(List qn)} (h:qc5 a≤1048576):Ev (fun n=>qgu n a a) true:=by
 have hl:a.length≤1048576:=by simp only [qc5] at h;omega
 unfold qgu
 exact Ev.ff (by simp) (Ev.bind (b:=.nxt (a.length:Int)) (qix (eqf:=qfF) (fun x hx=>qsw (by have:=qea (wt:=fun x:qn=>qcp x) hx;simp only [qc5] at h;omega))
  (fun n=>by simp only [qdx,qk (jb _),cond_false])
  (fun n j x hx=>by
   have hj:=(List.getElem?_eq_some_iff.1 hx).1
   simp only [qdx,qj hj,cond_true,qaq hx,ja,wS j])) .done)
theorem qtj {a:(List ByteArray)} (h:qgB a≤1048576):Ev (fun n=>qhW n a a) true:=by
 have hl:a.length≤1048576:=by simp only [qgB] at h;omega
 unfold qhW
 exact Ev.ff (by simp) (Ev.bind (b:=.nxt (a.length:Int)) (qix (eqf:=fun _ x y=>some (!(x.toList != y.toList))) (fun x _=>Ev.now (by simp))
  (fun n=>by simp only [qep,qk (jb _),cond_false])
  (fun n j x hx=>by
   have hj:=(List.getElem?_eq_some_iff.1 hx).1
   simp only [qep,qj hj,cond_true,qaq hx,ja,Bool.not_not,wS j])) .done)
theorem qwM {a:qah} (_:qjM a≤1048576):Ev (fun n=>qiL n a a) true:=by
 unfold qiL
 exact Ev.ff qhD (Ev.ff qaL (Ev.ff qaL (.done)))
theorem qu1 {a:(List qah)} (h:qhL a≤1048576):Ev (fun n=>qjs n a a) true:=by
 have hl:a.length≤1048576:=by simp only [qhL] at h;omega
 unfold qjs
 exact Ev.ff (by simp) (Ev.bind (b:=.nxt (a.length:Int)) (qix (eqf:=qiL) (fun x hx=>qwM (by have:=qea (wt:=fun x:qah=>qjM x) hx;simp only [qhL] at h;omega))
  (fun n=>by simp only [qfI,qk (jb _),cond_false])
  (fun n j x hx=>by
   have hj:=(List.getElem?_eq_some_iff.1 hx).1
   simp only [qfI,qj hj,cond_true,qaq hx,ja,wS j])) .done)
theorem qt0 {a:qd} (h:qgg a≤1048576):Ev (fun n=>qiA n a a) true:=by
 unfold qiA
 simp only [qgg] at h
 exact Ev.bind (qrQ (a:=a.Aa) (by omega)) (Ev.ff rfl (Ev.bind (qtj (a:=a.Am) (by omega)) (Ev.ff rfl (Ev.bind (qu1 (a:=a.Aj) (by omega)) (Ev.ff rfl (.done))))))
theorem qv7 {a:qQ} (h:qgO a≤1048576):Ev (fun n=>qiM n a a) true:=by
 unfold qiM
 simp only [qgO] at h
 exact Ev.bind (qfS (a:=a.Ak) (by omega)) (Ev.ff rfl (Ev.bind (qfS (a:=a.Bw) (by omega)) (Ev.ff rfl (Ev.bind (qfS (a:=a.Bt) (by omega)) (Ev.ff rfl (Ev.bind (qfS (a:=a.Bl) (by omega)) (Ev.ff rfl (.done))))))))
theorem qvB {a:(List qQ)} (h:qhZ a≤1048576):Ev (fun n=>qji n a a) true:=by
 have hl:a.length≤1048576:=by simp only [qhZ] at h;omega
 unfold qji
 exact Ev.ff (by simp) (Ev.bind (b:=.nxt (a.length:Int)) (qix (eqf:=qiM) (fun x hx=>qv7 (by have:=qea (wt:=fun x:qQ=>qgO x) hx;simp only [qhZ] at h;omega))
  (fun n=>by simp only [qfH,qk (jb _),cond_false])
  (fun n j x hx=>by
   have hj:=(List.getElem?_eq_some_iff.1 hx).1
   simp only [qfH,qj hj,cond_true,qaq hx,ja,wS j])) .done)
theorem qvJ {a:qf} (h:qhw a≤1048576):Ev (fun n=>qjx n a a) true:=by
 unfold qjx
 simp only [qhw] at h
 exact Ev.bind (qtl (a:=a.Av) (by omega)) (Ev.ff rfl (Ev.bind (qt0 (a:=a.Ab) (by omega)) (Ev.ff rfl (Ev.bind (qvB (a:=a.Ac) (by omega)) (Ev.ff rfl (.done))))))
theorem qfL {a:(List Int)} {left:Int} (h:(rngL rngI) a) (h0:0≤left) (h1:left≤1048576):Sz (fun n=>qbJ n a left) (fun r=>r=left-(qc9 a:Int)) :=
 Sz.less h0 h1 (by omega) (by have:=h.1;omega) (fun _=>rfl)
theorem qu3 {a:qv} {left:Int} (h:qho a) (h0:0≤left) (h1:left≤1048576):Sz (fun n=>qhJ n a left) (fun r=>r=left-(qfk a:Int)):=by
 unfold qhJ
 obtain ⟨h_0,h_1,h_2⟩:=h
 exact Sz.step (qfL (a:=a.Bm) h_0 (by omega) (by omega)) fun r0 p0 q0=>Sz.step (qfL (a:=a.Bj) h_1 (by omega) (by omega)) fun r1 p1 q1=>Sz.step (qfL (a:=a.Bi) h_2 (by omega) (by omega)) fun r2 p2 q2=>Sz.done p2 (by simp only [qfk];omega)
theorem qrb {a:(List qv)} {left:Int} (h:(rngL qho) a) (h0:0≤left) (h1:left≤1048576):Sz (fun n=>qiy n a left) (fun r=>r=left-(qfB a:Int)) :=
 Sz.list (Lf:=qdU a) (wt:=fun x:qv=>qfk x) (el:=qhJ) h0 h1 h.1 (fun x hx left p q=>qu3 (h.2 x hx) p q)
  (fun acc n=>by simp only [qdU,qk (jb _),cond_false])
  (fun acc n j x hx=>by
   have hj:=(List.getElem?_eq_some_iff.1 hx).1
   have hl:=h.1
   simp only [qdU,qj hj,cond_true,qaq hx,ja,wS j])
  (fun _=>rfl)
theorem qxK {a:qP} {left:Int} (h:qlJ a) (h0:0≤left) (h1:left≤1048576):Sz (fun n=>qjT n a left) (fun r=>r=left-(qkl a:Int)):=by
 unfold qjT
 obtain ⟨h_0,h_1,h_2,h_3,h_4,h_5⟩:=h
 exact Sz.step (qrb (a:=a.Bp) h_4 (by omega) (by omega)) fun r0 p0 q0=>Sz.step (qrb (a:=a.Bd) h_5 (by omega) (by omega)) fun r1 p1 q1=>Sz.done p1 (by simp only [qkl];omega)
theorem qwO {a:(List qP)} {left:Int} (h:(rngL qlJ) a) (h0:0≤left) (h1:left≤1048576):Sz (fun n=>qmi n a left) (fun r=>r=left-(qjP a:Int)) :=
 Sz.list (Lf:=qe3 a) (wt:=fun x:qP=>qkl x) (el:=qjT) h0 h1 h.1 (fun x hx left p q=>qxK (h.2 x hx) p q)
  (fun acc n=>by simp only [qe3,qk (jb _),cond_false])
  (fun acc n j x hx=>by
   have hj:=(List.getElem?_eq_some_iff.1 hx).1
   have hl:=h.1
   simp only [qe3,qj hj,cond_true,qaq hx,ja,wS j])
  (fun _=>rfl)
theorem qxp {a:qan} {left:Int} (h:qlG a) (h0:0≤left) (h1:left≤1048576):Sz (fun n=>qkf n a left) (fun r=>r=left-(qmq a:Int)):=by
 unfold qkf
 obtain ⟨h_0,h_1,h_2,h_3⟩:=h
 exact Sz.strStep h_0 (by omega) (by omega) fun p0 q0=>Sz.done p0 (by simp only [qmq];omega)
theorem qwT {a:(List qan)} {left:Int} (h:(rngL qlG) a) (h0:0≤left) (h1:left≤1048576):Sz (fun n=>qmk n a left) (fun r=>r=left-(qjY a:Int)) :=
 Sz.list (Lf:=qfe a) (wt:=fun x:qan=>qmq x) (el:=qkf) h0 h1 h.1 (fun x hx left p q=>qxp (h.2 x hx) p q)
  (fun acc n=>by simp only [qfe,qk (jb _),cond_false])
  (fun acc n j x hx=>by
   have hj:=(List.getElem?_eq_some_iff.1 hx).1
   have hl:=h.1
   simp only [qfe,qj hj,cond_true,qaq hx,ja,wS j])
  (fun _=>rfl)
theorem qwh {a:qB} {left:Int} (h:qj9 a) (h0:0≤left) (h1:left≤1048576):Sz (fun n=>qja n a left) (fun r=>r=left-(qgN a:Int)):=by
 unfold qja
 obtain ⟨h_0,h_1,h_2,h_3,h_4,h_5,h_6⟩:=h
 exact Sz.strStep h_0 (by omega) (by omega) fun p0 q0=>Sz.step (qwT (a:=a.Bc) h_2 (by omega) (by omega)) fun r1 p1 q1=>Sz.step (qwO (a:=a.Ar) h_3 (by omega) (by omega)) fun r2 p2 q2=>Sz.step (qfL (a:=a.Br) h_4 (by omega) (by omega)) fun r3 p3 q3=>Sz.done p3 (by simp only [qgN];omega)
theorem qva {a:(List qB)} {left:Int} (h:(rngL qj9) a) (h0:0≤left) (h1:left≤1048576):Sz (fun n=>qlz n a left) (fun r=>r=left-(qh4 a:Int)) :=
 Sz.list (Lf:=qed a) (wt:=fun x:qB=>qgN x) (el:=qja) h0 h1 h.1 (fun x hx left p q=>qwh (h.2 x hx) p q)
  (fun acc n=>by simp only [qed,qk (jb _),cond_false])
  (fun acc n j x hx=>by
   have hj:=(List.getElem?_eq_some_iff.1 hx).1
   have hl:=h.1
   simp only [qed,qj hj,cond_true,qaq hx,ja,wS j])
  (fun _=>rfl)
theorem qs2 {a:qp} {left:Int} (h:qkE a) (h0:0≤left) (h1:left≤1048576):Sz (fun n=>qhE n a left) (fun r=>r=left-(qgF a:Int)):=by
 unfold qhE
 have h_0:=h
 exact Sz.step (qva (a:=a.Aq) h_0 (by omega) (by omega)) fun r0 p0 q0=>Sz.done p0 (by simp only [qgF];omega)
theorem qsf {a:qn} {left:Int} (h:qfj a) (h0:0≤left) (h1:left≤1048576):Sz (fun n=>qfv n a left) (fun r=>r=left-(qcp a:Int)):=by
 unfold qfv
 obtain ⟨h_0,h_1,h_2⟩:=h
 exact Sz.strStep h_0 (by omega) (by omega) fun p0 q0=>Sz.step (qfL (a:=a.Am) h_2 (by omega) (by omega)) fun r1 p1 q1=>Sz.done p1 (by simp only [qcp];omega)
theorem qrP {a:(List qn)} {left:Int} (h:(rngL qfj) a) (h0:0≤left) (h1:left≤1048576):Sz (fun n=>qil n a left) (fun r=>r=left-(qc5 a:Int)) :=
 Sz.list (Lf:=qcC a) (wt:=fun x:qn=>qcp x) (el:=qfv) h0 h1 h.1 (fun x hx left p q=>qsf (h.2 x hx) p q)
  (fun acc n=>by simp only [qcC,qk (jb _),cond_false])
  (fun acc n j x hx=>by
   have hj:=(List.getElem?_eq_some_iff.1 hx).1
   have hl:=h.1
   simp only [qcC,qj hj,cond_true,qaq hx,ja,wS j])
  (fun _=>rfl)
theorem qtb {a:(List ByteArray)} {left:Int} (h:(rngL rngS) a) (h0:0≤left) (h1:left≤1048576):Sz (fun n=>qjL n a left) (fun r=>r=left-(qgB a:Int)) :=
 Sz.list (Lf:=qde a) (wt:=fun x:ByteArray=>x.size) (el:=fun _ (x:ByteArray) acc=>some (W64 (acc-(x.size:Int)))) h0 h1 h.1 (fun x hx left p q=>Sz.str (h.2 x hx) p q)
  (fun acc n=>by simp only [qde,qk (jb _),cond_false])
  (fun acc n j x hx=>by
   have hj:=(List.getElem?_eq_some_iff.1 hx).1
   have hl:=h.1
   simp only [qde,qj hj,cond_true,qaq hx,ja,wS j])
  (fun _=>rfl)
theorem qwb {a:qah} {left:Int} (h:qj3 a) (h0:0≤left) (h1:left≤1048576):Sz (fun n=>qi8 n a left) (fun r=>r=left-(qjM a:Int)):=by
 unfold qi8
 obtain ⟨h_0,h_1,h_2⟩:=h
 exact Sz.strStep h_0 (by omega) (by omega) fun p0 q0=>Sz.done p0 (by simp only [qjM];omega)
theorem qvv {a:(List qah)} {left:Int} (h:(rngL qj3) a) (h0:0≤left) (h1:left≤1048576):Sz (fun n=>qlx n a left) (fun r=>r=left-(qhL a:Int)) :=
 Sz.list (Lf:=qeg a) (wt:=fun x:qah=>qjM x) (el:=qi8) h0 h1 h.1 (fun x hx left p q=>qwb (h.2 x hx) p q)
  (fun acc n=>by simp only [qeg,qk (jb _),cond_false])
  (fun acc n j x hx=>by
   have hj:=(List.getElem?_eq_some_iff.1 hx).1
   have hl:=h.1
   simp only [qeg,qj hj,cond_true,qaq hx,ja,wS j])
  (fun _=>rfl)
theorem qub {a:qd} {left:Int} (h:qlO a) (h0:0≤left) (h1:left≤1048576):Sz (fun n=>qiH n a left) (fun r=>r=left-(qgg a:Int)):=by
 unfold qiH
 obtain ⟨h_0,h_1,h_2⟩:=h
 exact Sz.step (qrP (a:=a.Aa) h_0 (by omega) (by omega)) fun r0 p0 q0=>Sz.step (qtb (a:=a.Am) h_1 (by omega) (by omega)) fun r1 p1 q1=>Sz.step (qvv (a:=a.Aj) h_2 (by omega) (by omega)) fun r2 p2 q2=>Sz.done p2 (by simp only [qgg];omega)
theorem qwu {a:qQ} {left:Int} (h:qjU a) (h0:0≤left) (h1:left≤1048576):Sz (fun n=>qi2 n a left) (fun r=>r=left-(qgO a:Int)):=by
 unfold qi2
 obtain ⟨h_0,h_1,h_2,h_3⟩:=h
 exact Sz.step (qfL (a:=a.Ak) h_0 (by omega) (by omega)) fun r0 p0 q0=>Sz.step (qfL (a:=a.Bw) h_1 (by omega) (by omega)) fun r1 p1 q1=>Sz.step (qfL (a:=a.Bt) h_2 (by omega) (by omega)) fun r2 p2 q2=>Sz.step (qfL (a:=a.Bl) h_3 (by omega) (by omega)) fun r3 p3 q3=>Sz.done p3 (by simp only [qgO];omega)
theorem qu6 {a:(List qQ)} {left:Int} (h:(rngL qjU) a) (h0:0≤left) (h1:left≤1048576):Sz (fun n=>qlA n a left) (fun r=>r=left-(qhZ a:Int)) :=
 Sz.list (Lf:=qei a) (wt:=fun x:qQ=>qgO x) (el:=qi2) h0 h1 h.1 (fun x hx left p q=>qwu (h.2 x hx) p q)
  (fun acc n=>by simp only [qei,qk (jb _),cond_false])
  (fun acc n j x hx=>by
   have hj:=(List.getElem?_eq_some_iff.1 hx).1
   have hl:=h.1
   simp only [qei,qj hj,cond_true,qaq hx,ja,wS j])
  (fun _=>rfl)
theorem qu5 {a:qf} {left:Int} (h:qmR a) (h0:0≤left) (h1:left≤1048576):Sz (fun n=>qjo n a left) (fun r=>r=left-(qhw a:Int)):=by
 unfold qjo
 obtain ⟨h_0,h_1,h_2⟩:=h
 exact Sz.step (qs2 (a:=a.Av) h_0 (by omega) (by omega)) fun r0 p0 q0=>Sz.step (qub (a:=a.Ab) h_1 (by omega) (by omega)) fun r1 p1 q1=>Sz.step (qu6 (a:=a.Ac) h_2 (by omega) (by omega)) fun r2 p2 q2=>Sz.done p2 (by simp only [qhw];omega)
theorem qfN {a:(List Int)} (h:qc9 a≤1048576):Ev (fun n=>qbt n a) a:=by
 have hl:a.length≤1048576:=by simp only [qc9] at h;omega
 unfold qbt
 exact Ev.bindN (qhx (by omega)) (Ev.bind (b:=(a,(a.length:Int))) (qiB (cp:=fun _ x=>some x) (fun _ _=>.done)
  (fun acc n=>by simp only [qe9,qk (jb _),cond_false])
  (fun acc n j x y hx hy=>by
   have hj:=(List.getElem?_eq_some_iff.1 hx).1
   simp only [qe9,qj hj,cond_true,qaq hx,qaq hy,ja,wS j])) .done)
theorem qu4 {a:qv} (h:qfk a≤1048576):Ev (fun n=>qic n a) a:=by
 unfold qic
 simp only [qfk] at h
 exact Ev.bind (qfN (a:=a.Bm) (by omega)) (Ev.bind (qfN (a:=a.Bj) (by omega)) (Ev.bind (qfN (a:=a.Bi) (by omega)) (.done)))
theorem qqQ {a:(List qv)} (h:qfB a≤1048576):Ev (fun n=>qg4 n a) a:=by
 have hl:a.length≤1048576:=by simp only [qfB] at h;omega
 unfold qg4
 exact Ev.bindN (qhx (by omega)) (Ev.bind (b:=(a,(a.length:Int))) (qiB (cp:=qic) (fun x hx=>qu4 (by have:=qea (wt:=fun x:qv=>qfk x) hx;simp only [qfB] at h;omega))
  (fun acc n=>by simp only [qeX,qk (jb _),cond_false])
  (fun acc n j x y hx hy=>by
   have hj:=(List.getElem?_eq_some_iff.1 hx).1
   simp only [qeX,qj hj,cond_true,qaq hx,qaq hy,ja,wS j])) .done)
theorem qxg {a:qP} (h:qkl a≤1048576):Ev (fun n=>qjO n a) a:=by
 unfold qjO
 simp only [qkl] at h
 exact Ev.bind (qqQ (a:=a.Bp) (by omega)) (Ev.bind (qqQ (a:=a.Bd) (by omega)) (.done))
theorem qwD {a:(List qP)} (h:qjP a≤1048576):Ev (fun n=>qko n a) a:=by
 have hl:a.length≤1048576:=by simp only [qjP] at h;omega
 unfold qko
 exact Ev.bindN (qhx (by omega)) (Ev.bind (b:=(a,(a.length:Int))) (qiB (cp:=qjO) (fun x hx=>qxg (by have:=qea (wt:=fun x:qP=>qkl x) hx;simp only [qjP] at h;omega))
  (fun acc n=>by simp only [qgj,qk (jb _),cond_false])
  (fun acc n j x y hx hy=>by
   have hj:=(List.getElem?_eq_some_iff.1 hx).1
   simp only [qgj,qj hj,cond_true,qaq hx,qaq hy,ja,wS j])) .done)
theorem qxE {a:qan} (_:qmq a≤1048576):Ev (fun n=>qjI n a) a:=by
 unfold qjI
 exact .done
theorem qwf {a:(List qan)} (h:qjY a≤1048576):Ev (fun n=>qkv n a) a:=by
 have hl:a.length≤1048576:=by simp only [qjY] at h;omega
 unfold qkv
 exact Ev.bindN (qhx (by omega)) (Ev.bind (b:=(a,(a.length:Int))) (qiB (cp:=qjI) (fun x hx=>qxE (by have:=qea (wt:=fun x:qan=>qmq x) hx;simp only [qjY] at h;omega))
  (fun acc n=>by simp only [qf9,qk (jb _),cond_false])
  (fun acc n j x y hx hy=>by
   have hj:=(List.getElem?_eq_some_iff.1 hx).1
   simp only [qf9,qj hj,cond_true,qaq hx,qaq hy,ja,wS j])) .done)
theorem qwk {a:qB} (h:qgN a≤1048576):Ev (fun n=>qiS n a) a:=by
 unfold qiS
 simp only [qgN] at h
 exact Ev.bind (qwf (a:=a.Bc) (by omega)) (Ev.bind (qwD (a:=a.Ar) (by omega)) (Ev.bind (qfN (a:=a.Br) (by omega)) (.done)))
theorem qvE {a:(List qB)} (h:qh4 a≤1048576):Ev (fun n=>qjm n a) a:=by
 have hl:a.length≤1048576:=by simp only [qh4] at h;omega
 unfold qjm
 exact Ev.bindN (qhx (by omega)) (Ev.bind (b:=(a,(a.length:Int))) (qiB (cp:=qiS) (fun x hx=>qwk (by have:=qea (wt:=fun x:qB=>qgN x) hx;simp only [qh4] at h;omega))
  (fun acc n=>by simp only [qfu,qk (jb _),cond_false])
  (fun acc n j x y hx hy=>by
   have hj:=(List.getElem?_eq_some_iff.1 hx).1
   simp only [qfu,qj hj,cond_true,qaq hx,qaq hy,ja,wS j])) .done)
theorem qtg {a:qp} (h:qgF a≤1048576):Ev (fun n=>qh6 n a) a:=by
 unfold qh6
 simp only [qgF] at h
 exact Ev.bind (qvE (a:=a.Aq) (by omega)) (.done)
theorem qsu {a:qn} (h:qcp a≤1048576):Ev (fun n=>qfE n a) a:=by
 unfold qfE
 simp only [qcp] at h
 exact Ev.bind (qfN (a:=a.Am) (by omega)) (.done)
theorem qrM {a:(List qn)} (h:qc5 a≤1048576):Ev (fun n=>qgJ n a) a:=by
 have hl:a.length≤1048576:=by simp only [qc5] at h;omega
 unfold qgJ
 exact Ev.bindN (qhx (by omega)) (Ev.bind (b:=(a,(a.length:Int))) (qiB (cp:=qfE) (fun x hx=>qsu (by have:=qea (wt:=fun x:qn=>qcp x) hx;simp only [qc5] at h;omega))
  (fun acc n=>by simp only [qdz,qk (jb _),cond_false])
  (fun acc n j x y hx hy=>by
   have hj:=(List.getElem?_eq_some_iff.1 hx).1
   simp only [qdz,qj hj,cond_true,qaq hx,qaq hy,ja,wS j])) .done)
theorem qs4 {a:(List ByteArray)} (h:qgB a≤1048576):Ev (fun n=>qib n a) a:=by
 have hl:a.length≤1048576:=by simp only [qgB] at h;omega
 unfold qib
 exact Ev.bindN (qhx (by omega)) (Ev.bind (b:=(a,(a.length:Int))) (qiB (cp:=fun _ x=>some x) (fun _ _=>.done)
  (fun acc n=>by simp only [qeq,qk (jb _),cond_false])
  (fun acc n j x y hx hy=>by
   have hj:=(List.getElem?_eq_some_iff.1 hx).1
   simp only [qeq,qj hj,cond_true,qaq hx,qaq hy,ja,wS j])) .done)
theorem qw0 {a:qah} (_:qjM a≤1048576):Ev (fun n=>qi9 n a) a:=by
 unfold qi9
 exact .done
theorem quZ {a:(List qah)} (h:qhL a≤1048576):Ev (fun n=>qju n a) a:=by
 have hl:a.length≤1048576:=by simp only [qhL] at h;omega
 unfold qju
 exact Ev.bindN (qhx (by omega)) (Ev.bind (b:=(a,(a.length:Int))) (qiB (cp:=qi9) (fun x hx=>qw0 (by have:=qea (wt:=fun x:qah=>qjM x) hx;simp only [qhL] at h;omega))
  (fun acc n=>by simp only [qfx,qk (jb _),cond_false])
  (fun acc n j x y hx hy=>by
   have hj:=(List.getElem?_eq_some_iff.1 hx).1
   simp only [qfx,qj hj,cond_true,qaq hx,qaq hy,ja,wS j])) .done)
theorem quj {a:qd} (h:qgg a≤1048576):Ev (fun n=>qiE n a) a:=by
 unfold qiE
 simp only [qgg] at h
 exact Ev.bind (qrM (a:=a.Aa) (by omega)) (Ev.bind (qs4 (a:=a.Am) (by omega)) (Ev.bind (quZ (a:=a.Aj) (by omega)) (.done)))
theorem qww {a:qQ} (h:qgO a≤1048576):Ev (fun n=>qiP n a) a:=by
 unfold qiP
 simp only [qgO] at h
 exact Ev.bind (qfN (a:=a.Ak) (by omega)) (Ev.bind (qfN (a:=a.Bw) (by omega)) (Ev.bind (qfN (a:=a.Bt) (by omega)) (Ev.bind (qfN (a:=a.Bl) (by omega)) (.done))))
theorem qu7 {a:(List qQ)} (h:qhZ a≤1048576):Ev (fun n=>qjl n a) a:=by
 have hl:a.length≤1048576:=by simp only [qhZ] at h;omega
 unfold qjl
 exact Ev.bindN (qhx (by omega)) (Ev.bind (b:=(a,(a.length:Int))) (qiB (cp:=qiP) (fun x hx=>qww (by have:=qea (wt:=fun x:qQ=>qgO x) hx;simp only [qhZ] at h;omega))
  (fun acc n=>by simp only [qfA,qk (jb _),cond_false])
  (fun acc n j x y hx hy=>by
   have hj:=(List.getElem?_eq_some_iff.1 hx).1
   simp only [qfA,qj hj,cond_true,qaq hx,qaq hy,ja,wS j])) .done)
theorem qvY {a:qf} (h:qhw a≤1048576):Ev (fun n=>qjn n a) a:=by
 unfold qjn
 simp only [qhw] at h
 exact Ev.bind (qtg (a:=a.Av) (by omega)) (Ev.bind (quj (a:=a.Ab) (by omega)) (Ev.bind (qu7 (a:=a.Ac) (by omega)) (.done)))
end Go.Fw


namespace Go.Fw
open Go
set_option maxRecDepth 100000
theorem qcw {n:Nat} {x lo hi:Int}:qai n x lo hi=some (inI x lo hi):=by
 simp only [qai,qmc,qnF];rfl
theorem qdf {n:Nat} {x lo hi:Int}:qaG n x lo hi=some (inI x lo hi):=by
 simp only [qaG,qmc,qnF];rfl
def bt (s:ByteArray) (j:Nat):Nat:=(s.data.toList.getD j 0).toNat
theorem qvz {s:ByteArray} {j:Nat} (h:j<s.size):atS s (j:Int)=some (bt s j:Int):=by
 have h':j<s.data.size:=h
 have hl:j<s.data.toList.length:=by simpa using h'
 unfold atS
 rw [if_pos (by omega),jp]
 have:s[j]?=some (s.data.toList.getD j 0):=by
  rw [getElem?_pos s j h,jz,jf hl]
  rfl
 rw [this]
 rfl
def letB (b:Nat):Bool:=decide (97≤b)&&decide (b≤122)
def digB (b:Nat):Bool:=decide (48≤b)&&decide (b≤57)
def chB (s:ByteArray) (j:Nat):Bool:=letB (bt s j) || digB (bt s j)&&decide (0<j)
def nameB (s:ByteArray):Bool:=(decide (1≤s.size)&&decide (s.size≤8))&&allN (chB s) s.size
theorem qlL {s:ByteArray} (h:okS s):Ev (fun n=>qfs n s) (nameB s):=by
 unfold okS at h
 have hL:Ev (fun n=>qdp s n 0) (bif allN (chB s) s.size then .nxt (s.size:Int) else .ret false):=by
  refine qd1 ?_ (fun j hj X hX=>?_)
  ·exact Ev.succ (by simp only [qdp,qk (jb _),cond_false];exact .done)
  ·refine Ev.succ ?_
   simp only [qdp,qj hj,cond_true,qvz hj,ja,qmc,qnF,wS j]
   have e1:(decide ((bt s j:Int) ≥ 97)&&decide ((bt s j:Int)≤122))=letB (bt s j):=by unfold letB;rw [jh];simp;omega
   have e2:(decide ((bt s j:Int) ≥ 48)&&decide ((bt s j:Int)≤57))=digB (bt s j):=by unfold digB;rw [jh];simp;omega
   have e3:decide ((j:Int) > 0)=decide (0<j):=by rw [jh];simp
   rw [e1,e2,e3]
   unfold chB
   cases letB (bt s j)<;>cases digB (bt s j)<;>cases decide (0<j)<;>first|exact hX|exact .done
 unfold qfs
 refine Ev.cast (r:=bif allN (chB s) s.size then (decide (1≤s.size)&&decide (s.size≤8)) else false) (Ev.bindB hL (fun _=>?_) (fun _=>.done)) ?_
 ·simp only [qmc,qnF]
  exact Ev.now (by congr 1;rw [jh];simp;omega)
 ·unfold nameB
  cases allN (chB s) s.size<;>simp
def cutset:List UInt8:=[97,98,99,100,101,102,103,104,105,106,107,108,109,110,111,112,113,114,115,116,117,118,119,120,121,122,48,49,50,51,52,53,54,55,56,57]
theorem qp3 (b:UInt8):cutset.contains b=(letB b.toNat || digB b.toNat):=by
 have h0:(List.range 256).all (fun m=>cutset.contains (UInt8.ofNat m)==(letB (UInt8.ofNat m).toNat || digB (UInt8.ofNat m).toNat))=true:=by kernel_rfl
 have h:=List.all_eq_true.1 h0 b.toNat (List.mem_range.2 b.toNat_lt)
 rw [beq_iff_eq] at h
 simpa using h
def letters:List UInt8:=[97,98,99,100,101,102,103,104,105,106,107,108,109,110,111,112,113,114,115,116,117,118,119,120,121,122]
theorem qsQ (m:Nat) (hm:m<256):decide ((Lib.indexByte letters m.toUInt8) ≥ 0)=letB m:=by
 have h0:(List.range 256).all (fun m=>decide ((Lib.indexByte letters m.toUInt8) ≥ 0)==letB m)=true:=by kernel_rfl
 have h:=List.all_eq_true.1 h0 m (List.mem_range.2 hm)
 rwa [beq_iff_eq] at h
theorem qqE {α:Type} {p:α→Bool} {l:List α}:l.dropWhile p=[]↔∀ x,x ∈ l→p x=true:=by
 induction l with
 | nil=>simp
 | cons y l ih =>
  rw [List.dropWhile_cons]
  by_cases h:p y=true
  ·rw [if_pos h,ih];simp [h]
  ·rw [if_neg h];simp [h]
theorem qqu {α:Type} {p:α→Bool} {l:List α} (h:∀ x,x ∈ l.dropWhile p→p x=true):∀ x,x ∈ l→p x=true:=by
 induction l with
 | nil=>simp
 | cons y l ih =>
  rw [List.dropWhile_cons] at h
  by_cases hy:p y=true
  ·rw [if_pos hy] at h
   intro x hx
   rcases List.mem_cons.1 hx with rfl|hx
   ·exact hy
   ·exact ih h x hx
  ·rw [if_neg hy] at h
   exact h
theorem qvi {l cs:List UInt8}:Lib.trimS l cs=[]↔∀ x,x ∈ l→cs.contains x=true:=by
 unfold Lib.trimS Lib.trimRightS Lib.trimLeftS
 rw [qqE]
 constructor
 ·intro h x hx
  exact qqu (p:=(cs.contains ·)) (l:=l.reverse) (fun y hy=>h y (List.mem_reverse.2 hy)) x (List.mem_reverse.2 hx)
 ·intro h x hx
  exact h x (List.mem_reverse.1 ((List.dropWhile_suffix _).subset (List.mem_reverse.1 hx)))
theorem qg8 {a b:ByteArray}:(a.toList==b.toList)=decide (a=b):=by
 rw [jh,beq_iff_eq,decide_eq_true_iff]
 constructor
 ·intro h
  exact ByteArray.ext (by have:=congrArg List.toArray h;simpa [ByteArray.toList_eq] using this)
 ·rintro rfl;rfl
end Go.Fw


namespace Go.Fw
open Go
set_option maxRecDepth 100000
theorem qw3 {s:ByteArray} {j:Nat} (h:j<s.data.toList.length):bt s j=(s.data.toList[j]).toNat:=by
 unfold bt;rw [jz,jf h];rfl
theorem qxP {s:ByteArray} {j:Nat}:bt s j<256:=UInt8.toNat_lt _
theorem qop {n:Nat} {s:ByteArray} (h:okS s):qhq n s=some (nameB s):=by
 unfold okS at h
 have hl:s.data.toList.length=s.size:=by simp
 simp only [qhq,qdf,ja]
 cases hI:inI (s.size:Int) 1 8 with
 | false =>
  have hs:(decide (1≤s.size)&&decide (s.size≤8))=false:=by rw [qum] at hI;rw [Bool.and_eq_false_iff,decide_eq_false_iff_not,decide_eq_false_iff_not];omega
  simp [nameB,hs]
 | true =>
  have hs:1≤s.size∧s.size≤8:=by rw [qaX] at hI;omega
  have hT:qh2 n s (⟨#[97,98,99,100,101,102,103,104,105,106,107,108,109,110,111,112,113,114,115,116,117,118,119,120,121,122,48,49,50,51,52,53,54,55,56,57]⟩:ByteArray)=some ⟨(Lib.trimS s.data.toList cutset).toArray⟩:=by
   unfold qh2
   rw [if_pos ⟨by omega,by decide,by decide⟩]
   rfl
  rw [hT]
  simp only [cond_true,ja]
  have hE:(((⟨(Lib.trimS s.data.toList cutset).toArray⟩:ByteArray).toList==(⟨#[]⟩:ByteArray).toList))=allN (fun j=>letB (bt s j) || digB (bt s j)) s.size:=by
   rw [qg8,jh,decide_eq_true_iff,qak]
   have:((⟨(Lib.trimS s.data.toList cutset).toArray⟩:ByteArray)=⟨#[]⟩)↔Lib.trimS s.data.toList cutset=[]:=by
    constructor
    ·intro he
     have:=congrArg (fun x:ByteArray=>x.data.toList) he
     simpa using this
    ·intro he;rw [he]
   rw [this,qvi]
   constructor
   ·intro hx j hj
    have hj':j<s.data.toList.length:=by omega
    have:=hx _ (jo hj')
    rw [qp3,←qw3 hj'] at this
    exact this
   ·intro hx x hm
    obtain ⟨j,hj,rfl⟩:=jM hm
    have:=hx j (by omega)
    rw [qp3,←qw3 hj]
    exact this
  rw [hE]
  have h0:atS s 0=some (bt s 0:Int):=qvz (j:=0) (by omega)
  have hI2:decide (Lib.indexByte letters (bt s 0:Int).toNat.toUInt8 ≥ 0)=letB (bt s 0):=by
   rw [jp];exact qsQ _ qxP
  have hF:∀ b:Bool,(bif b then (atS s 0).bind fun y1=>(qf0 n (⟨#[97,98,99,100,101,102,103,104,105,106,107,108,109,110,111,112,113,114,115,116,117,118,119,120,121,122]⟩:ByteArray) (⟨y1⟩:IntK .u8)).bind fun r3=>some (decide (r3 ≥ 0)) else some false)=some (b&&letB (bt s 0)):=by
   intro b
   cases b with
   | false=>rfl
   | true =>
    rw [h0]
    simp only [cond_true,ja,qf0,jw]
    exact congrArg some hI2
  rw [hF]
  congr 1
  have hs':(decide (1≤s.size)&&decide (s.size≤8))=true:=by simp [hs]
  unfold nameB
  rw [hs',jw,jh,jc,qak,qak]
  simp only [chB,Bool.or_eq_true,jc,decide_eq_true_eq]
  constructor
  ·rintro ⟨h1,h2⟩ j hj
   rcases Nat.eq_zero_or_pos j with rfl|hp
   ·exact .inl h2
   ·exact (h1 j hj).imp id (fun h=>⟨h,hp⟩)
  ·intro h1
   refine ⟨fun j hj=>(h1 j hj).imp id (fun h=>h.1),?_⟩
   rcases h1 0 (by omega) with h2|h2
   ·exact h2
   ·omega
def strAt (xs:List ByteArray) (j:Nat):ByteArray:=xs.getD j ByteArray.empty
theorem qnx {xs:List ByteArray} {j:Nat} (h:j<xs.length):strAt xs j=xs[j]:=by simp [strAt,h]
theorem qpn {xs:List ByteArray} {j:Nat} (h:j<xs.length):idx xs (j:Int)=some (strAt xs j):=by rw [qh7 h,qnx h]
def neB (xs:List ByteArray) (j i:Nat):Bool:=!decide (strAt xs i=strAt xs j)
def namesB (xs:List ByteArray):Bool:=allN (fun j=>nameB (strAt xs j)&&allN (neB xs j) j) xs.length
theorem ql5 {xs:List ByteArray} (h:okL okS xs):Ev (fun n=>qfR n xs) (namesB xs):=by
 have hl:=h.len
 have hL2:∀ j,j<xs.length→Ev (fun n=>qdM xs (j:Int) n 0) (bif allN (neB xs j) j then .nxt (j:Int) else .ret false):=by
  intro j hj
  refine qd1 ?_ (fun i hi X hX=>Ev.succ ?_)
  ·exact Ev.succ (by simp only [qdM,qk (jb _),cond_false];exact .done)
  ·simp only [qdM,qj hi,cond_true,qpn (show i<xs.length by omega),qpn hj,ja,qg8,wS i]
   unfold neB
   cases decide (strAt xs i=strAt xs j)
   ·exact hX
   ·exact .done
 have hL1:Ev (fun n=>qdQ xs n 0) (bif namesB xs then .nxt (xs.length:Int) else .ret false):=by
  refine qd1 ?_ (fun j hj X hX=>Ev.succ ?_)
  ·exact Ev.succ (by simp only [qdQ,qk (jb _),cond_false];exact .done)
  ·simp only [qdQ,qj hj,cond_true,qpn hj,ja,wS j]
   refine Ev.bind (qlL (by rw [qnx hj];exact h.at hj)) ?_
   cases nameB (strAt xs j)
   ·exact .done
   ·refine Ev.ff rfl (Ev.bind (hL2 j hj) ?_)
    cases allN (neB xs j) j
    ·exact .done
    ·exact hX
 unfold qfR
 refine Ev.bind hL1 ?_
 cases namesB xs<;>exact .done
theorem qsr {xs:List ByteArray} {v:ByteArray} (hl:xs.length≤1048576):Ev (fun n=>qeS n xs v) (ixL (fun x=>decide (v=x)) xs) :=
 qfw (fin:=(xs.length:Int)) (Lf:=qbP xs v) (pf:=fun _ x=>some (decide (v=x))) (fun _ _=>.done)
  (fun n=>by simp only [qbP,qk (jb _),cond_false])
  (fun n j x hx=>by
   have hj:=(List.getElem?_eq_some_iff.1 hx).1
   simp only [qbP,qj hj,cond_true,qaq hx,ja,qg8,wS j])
  (fun n=>by unfold qeS;congr 1;funext o;cases o<;>rfl)
theorem qqc {xs:List ByteArray} {v:ByteArray} (hl:xs.length≤1048576):Ev (fun n=>qdC n xs v) (xs.any fun x=>decide (v=x)):=by
 unfold qdC
 exact Ev.bind (qsr hl) (Ev.now (by rw [qnc]))
theorem qi5 {xs:List ByteArray} (h:okL okS xs):Ev (fun n=>qdH n xs) (namesB xs):=by
 have hl:=h.len
 have hL1:Ev (fun n=>qdT xs n 0) (bif namesB xs then .nxt (xs.length:Int) else .ret false):=by
  refine qd1 ?_ (fun j hj X hX=>Ev.succ ?_)
  ·exact Ev.succ (by simp only [qdT,qk (jb _),cond_false];exact .done)
  ·have hs:subS xs 0 (j:Int)=some (xs.take j):=by
    unfold subS
    rw [if_pos ⟨by omega,by omega,by omega⟩]
    simp
   simp only [qdT,qj hj,cond_true,qpn hj,ja,hs,qop (show okS (strAt xs j) by rw [qnx hj];exact h.at hj),wS j]
   cases nameB (strAt xs j)
   ·exact .done
   ·refine Ev.ff rfl (Ev.bind (qqc (by simp;omega)) ?_)
    have:((xs.take j).any fun x=>decide (strAt xs j=x)) = !allN (neB xs j) j:=by
     rw [qr1 (d:=ByteArray.empty)]
     congr 1
     rw [jT,Nat.min_eq_left (by omega)]
     refine qhk (fun i hi=>?_)
     unfold neB strAt
     congr 1
     have:(xs.take j).getD i ByteArray.empty=xs.getD i ByteArray.empty:=by simp [jz,hi]
     rw [this]
     exact decide_eq_decide.2 eq_comm
    rw [this]
    cases allN (neB xs j) j
    ·exact .done
    ·exact hX
 unfold qdH
 refine Ev.bind hL1 ?_
 cases namesB xs<;>exact .done
end Go.Fw


namespace Go.Fw
open Go
set_option maxRecDepth 100000
theorem qqr {n:Nat} {x lo hi:Int}:qgG n x lo hi=some (!inI x lo hi):=by simp only [qgG,qdf,ja]
theorem qer {xs:List Int} {lo hi:Int} (hl:xs.length≤1048576):Ev (fun n=>qbF n xs lo hi) (xs.all fun x=>inI x lo hi):=by
 have h1:Ev (fun n=>qaJ n xs lo hi) (ixL (fun x=>!inI x lo hi) xs) :=
  qfw (fin:=(xs.length:Int)) (Lf:=qX xs lo hi) (pf:=fun _ x=>some (!inI x lo hi)) (fun _ _=>.done)
   (fun n=>by simp only [qX,qk (jb _),cond_false])
   (fun n j x hx=>by
    have hj:=(List.getElem?_eq_some_iff.1 hx).1
    simp only [qX,qj hj,cond_true,qaq hx,ja,qqr,wS j])
   (fun n=>by unfold qaJ;congr 1;funext o;cases o<;>rfl)
 unfold qbF qbi
 refine Ev.bind (Ev.bind h1 (Ev.now rfl)) (Ev.now ?_)
 rw [qnc,qpq]
def stepB (xs:List Int) (j:Nat):Bool:=decide (j=0) || decide (at0 xs (j-1)<at0 xs j)
def incB (xs:List Int):Bool:=allN (stepB xs) xs.length
theorem qlV {xs:List Int} (hl:xs.length≤1048576):Ev (fun n=>qeI n xs) (incB xs):=by
 have hL:Ev (fun n=>qbd xs n 1) (bif incB xs then .nxt (max 1 xs.length:Int) else .ret false):=by
  by_cases h0:xs.length=0
  ·have hb:incB xs=true:=by unfold incB;rw [h0];rfl
   rw [hb]
   refine Ev.succ ?_
   have:decide ((1:Int)<(xs.length:Int))=false:=by rw [h0];decide
   simp only [qbd,this,cond_false]
   exact Ev.now (by rw [h0];rfl)
  ·have:=qtI (Lf:=qbd xs) (len:=xs.length) (i0:=1) (f:=stepB xs) (bad:=false) (fin:=.nxt (max 1 xs.length:Int)) (by omega)
    (Ev.succ (by
     simp only [qbd,qk (jb _),cond_false]
     exact Ev.now (by congr 2;omega)))
    (fun j h1 hj X hX=>Ev.succ (by
     simp only [qbd,qj hj,cond_true,wS j,show (j:Int)-1=((j-1:Nat):Int) by omega,qas (show -9223372036854775808≤((j-1:Nat):Int) by omega) (by omega),qag (show j-1<xs.length by omega),qag hj,ja]
     unfold stepB
     by_cases hc:at0 xs (j-1)<at0 xs j
     ·have e1:decide (at0 xs (j-1) ≥ at0 xs j)=false:=by simp;omega
      rw [e1];simp only [hc,decide_true,Bool.or_true,cond_true,cond_false];exact hX
     ·have e1:decide (at0 xs (j-1) ≥ at0 xs j)=true:=by simp;omega
      have e2:decide (j=0)=false:=by simp;omega
      rw [e1,e2];simp only [hc,decide_false,Bool.or_self,cond_true,cond_false];exact .done))
   have e:allN (fun j=>stepB xs (1+j)) (xs.length-1)=incB xs:=by
    unfold incB
    rw [jh,qak,qak]
    constructor
    ·intro h j hj
     cases j with
     | zero=>rfl
     | succ j=>have:=h j (by omega);rwa [Nat.add_comm] at this
    ·intro h j hj
     exact h (1+j) (by omega)
   rw [e] at this
   exact this
 unfold qeI
 refine Ev.bind hL ?_
 cases incB xs<;>exact .done
def lenB {α:Type} (xs:List α) (lo hi:Nat):Bool:=decide (lo≤xs.length)&&decide (xs.length≤hi)
theorem qrH {α:Type} {xs:List α} {lo hi:Nat}:inI (xs.length:Int) (lo:Int) (hi:Int)=lenB xs lo hi:=by
 unfold inI lenB;rw [jh];simp
def axisB (xs:List Int):Bool:=lenB xs 1 4&&((xs.all fun x=>inI x 0 100000)&&incB xs)
theorem qqN {xs:List Int} (hl:xs.length≤1048576):Ev (fun n=>qiU n xs) (axisB xs):=by
 simp only [qiU,qa9,ja,qdf,show inI (xs.length:Int) 1 4=lenB xs 1 4 from qrH (lo:=1) (hi:=4)]
 unfold axisB
 cases lenB xs 1 4
 ·exact .done
 ·refine Ev.tt rfl (Ev.bind (qer hl) ?_)
  cases (xs.all fun x=>inI x 0 100000)
  ·exact .done
  ·exact Ev.tt rfl (Ev.bind (qlV hl) .done)
theorem qp9 {xs:List Int} (hl:xs.length≤1048576):Ev (fun n=>qhv n xs) (axisB xs):=by
 have hL:Ev (fun n=>qdn xs n 0) (bif allN (fun j=>inI (at0 xs j) 0 100000&&stepB xs j) xs.length then .nxt (xs.length:Int) else .ret false):=by
  refine qd1 ?_ (fun j hj X hX=>Ev.succ ?_)
  ·exact Ev.succ (by simp only [qdn,qk (jb _),cond_false];exact .done)
  ·simp only [qdn,qj hj,cond_true,qag hj,ja,qcw,wS j]
   cases inI (at0 xs j) 0 100000
   ·exact .done
   ·simp only [jX,cond_false,jw]
    unfold stepB
    by_cases h0:j=0
    ·subst h0
     exact Ev.ff (by decide) hX
    ·simp only [show (j:Int)-1=((j-1:Nat):Int) by omega,qas (show -9223372036854775808≤((j-1:Nat):Int) by omega) (by omega),qag (show j-1<xs.length by omega),ja]
     have e2:decide (j=0)=false:=by simp;omega
     have e3:decide ((j:Int) > 0)=true:=by simp;omega
     rw [e2,e3]
     simp only [cond_true,Bool.false_or]
     by_cases hc:at0 xs (j-1)<at0 xs j
     ·have e1:decide (at0 xs (j-1) ≥ at0 xs j)=false:=by simp;omega
      rw [e1];simp only [hc,decide_true,cond_true,cond_false];exact hX
     ·have e1:decide (at0 xs (j-1) ≥ at0 xs j)=true:=by simp;omega
      rw [e1];simp only [hc,decide_false,cond_true,cond_false];exact .done
 have e:axisB xs=(allN (fun j=>inI (at0 xs j) 0 100000&&stepB xs j) xs.length&&lenB xs 1 4):=by
  unfold axisB incB
  rw [qla,qge (d:=0),Bool.and_comm]
  rfl
 rw [e]
 unfold qhv
 refine Ev.bind hL ?_
 cases allN (fun j=>inI (at0 xs j) 0 100000&&stepB xs j) xs.length
 ·exact .done
 ·simp only [cond_true,qmc,qnF,jw]
  exact Ev.now (by congr 1;unfold lenB;rw [jh];simp;omega)
def tableB (t:qv):Bool:=axisB t.Bm&&(axisB t.Bj&&(decide (t.Bi.length=t.Bm.length*t.Bj.length)&&(t.Bi.all fun x=>inI x (-1000000) 1000000)))
theorem qtG {a b:Nat} (ha:a≤1048576) (hb:b≤1048576):W64 ((a:Int)*(b:Int))=((a*b:Nat):Int):=by
 have h:a*b≤1048576*1048576:=Nat.mul_le_mul ha hb
 have e:(a:Int)*(b:Int)=((a*b:Nat):Int):=by simp
 rw [e]
 exact qas (by omega) (by omega)
theorem qtm {t:qv} (h:qie t):Ev (fun n=>qjr n t) (tableB t):=by
 unfold qjr tableB
 refine Ev.bind (qqN h.Bm.len) ?_
 cases axisB t.Bm
 ·exact .done
 ·refine Ev.tt rfl (Ev.bind (qqN h.Bj.len) ?_)
  cases axisB t.Bj
  ·exact .done
  ·rw [qtG h.Bm.len h.Bj.len]
   have e:(((t.Bi.length:Nat):Int)==((t.Bm.length*t.Bj.length:Nat):Int))=decide (t.Bi.length=t.Bm.length*t.Bj.length):=by rw [jh];simp;omega
   rw [e]
   cases decide (t.Bi.length=t.Bm.length*t.Bj.length)
   ·exact .done
   ·exact Ev.tt rfl (Ev.tt rfl (Ev.bind (qer h.Bi.len) .done))
theorem qsp {t:qv} (h:qie t):Ev (fun n=>qjA n t) (tableB t):=by
 have hl:=h.Bi.len
 have hL:Ev (fun n=>qec t n 0) (bif (t.Bi.all fun x=>inI x (-1000000) 1000000) then .nxt (t.Bi.length:Int) else .ret false) :=
  qnX (fun n=>by simp only [qec,qk (jb _),cond_false]) (fun j hj X hX=>by
   simp only [qec,qj hj,cond_true,qh7 hj,ja,qcw,wS j]
   cases inI t.Bi[j] (-1000000) 1000000
   ·exact .done
   ·exact hX)
 unfold qjA tableB
 refine Ev.bind (b:=!(axisB t.Bm&&(axisB t.Bj&&decide (t.Bi.length=t.Bm.length*t.Bj.length)))) ?_ ?_
 ·refine Ev.bind (qp9 h.Bm.len) ?_
  cases axisB t.Bm
  ·exact .done
  ·refine Ev.ff rfl (Ev.bind (qp9 h.Bj.len) ?_)
   cases axisB t.Bj
   ·exact .done
   ·refine Ev.ff rfl (Ev.now ?_)
    rw [qtG h.Bm.len h.Bj.len]
    congr 1
    rw [jh];simp;omega
 ·cases axisB t.Bm
  ·exact .done
  ·cases axisB t.Bj
   ·exact .done
   ·cases decide (t.Bi.length=t.Bm.length*t.Bj.length)
    ·exact .done
    ·refine Ev.ff rfl (Ev.bind hL ?_)
     cases (t.Bi.all fun x=>inI x (-1000000) 1000000)<;>exact .done
end Go.Fw


namespace Go.Fw
open Go
set_option maxRecDepth 100000
instance:Inhabited qan:=⟨⟨ByteArray.empty,0,0,false⟩⟩
instance:Inhabited qv:=⟨⟨[],[],[]⟩⟩
instance:Inhabited qP:=⟨⟨0,0,0,0,[],[]⟩⟩
instance:Inhabited qB:=⟨⟨ByteArray.empty,0,[],[],[],0,0⟩⟩
instance:Inhabited qn:=⟨⟨ByteArray.empty,0,[]⟩⟩
instance:Inhabited qah:=⟨⟨ByteArray.empty,0,0⟩⟩
instance:Inhabited qQ:=⟨⟨[],[],[],[]⟩⟩
theorem lastE {j m:Nat} (h:j<m) (hm:m≤1048576):((j:Int)==W64 ((m:Int)-1))=decide (j+1=m):=by
 rcases qwa h with h|h
 ·exact h
 ·omega
theorem qjF {α:Type} [Inhabited α] {xs:List α} {g:α→ByteArray} {j:Nat} (h:j<xs.length):strAt (xs.map g) j=g (gt xs j):=by
 rw [qnx (by simpa using h),qeu h];simp
theorem qmK {α:Type} {xs:List α} {g:α→ByteArray} {ok:α→Prop} (h:okL ok xs) (hg:∀ x,ok x→okS (g x)):okL okS (xs.map g) :=
 ⟨by rw [jv];exact h.1,fun y hy=>by
  obtain ⟨x,hx,rfl⟩:=List.mem_map.1 hy
  exact hg x (h.2 x hx)⟩
theorem qkW {α β:Type} {xs:List α} {g:α→β} {j:Nat} (h:j<xs.length) (hl:xs.length≤1048576) {y:β}:appS ((xs.take j).map g) [y]=some ((xs.take j).map g++[y]) :=
 qcO (by simp;omega)
def pinB (ps:List qan) (j:Nat):Bool :=
 bif decide (j+1=ps.length) then ((gt ps j).Bv==2)&&(((gt ps j).Bt==0)&&!(gt ps j).Bq) else ((gt ps j).Bv==1)&&inI (gt ps j).Bt 0 500
def pinsB (ps:List qan):Bool:=allN (pinB ps) ps.length&&(lenB ps 2 5&&namesB (ps.map qan.Ba))
def clkN (ps:List qan) (j:Nat):Nat:=cntP (fun i=>(gt ps i).Bq) j
theorem qsM {ps:List qan} (h:okL qmy ps):Ev (fun n=>qjy n ps) (pinsB ps):=by
 have hl:=h.len
 have hL:Ev (fun n=>qcL ps n ([]:List ByteArray) 0) (bif allN (pinB ps) ps.length then .nxt (ps.map qan.Ba,(ps.length:Int)) else .ret false):=by
  refine loopN (Lf:=qcL ps) (S:=fun j=>(ps.take j).map qan.Ba) (pinB ps) (fun n=>?_) (fun j hj hp X hX=>?_)
  ·simp only [qcL,qk (jb _),cond_false,jB]
  ·simp only [qcL,qj hj,cond_true,qz hj,ja,qkW hj hl,qfm (g:=qan.Ba) hj,lastE hj hl,bne,qcP,qdf,wS j]
   generalize hc:pinB ps j=c at hX ⊢
   unfold pinB at hc
   cases hd:decide (j+1=ps.length)
   ·rw [hd] at hc
    simp only [cond_false] at hc ⊢
    subst hc
    exact Ev.okP (fun h1=>Ev.okP1 (fun h2=>hX (by rw [h1,h2];rfl)))
   ·rw [hd] at hc
    simp only [cond_true] at hc ⊢
    subst hc
    refine Ev.okP (fun h1=>Ev.okP (fun h2=>Ev.chkP1 (fun h3=>hX (by rw [h1,h2,h3];rfl))))
 unfold qjy pinsB
 refine Ev.bind hL ?_
 cases allN (pinB ps) ps.length
 ·exact .done
 ·simp only [cond_true,qcd,qdf,ja,show inI (ps.length:Int) 2 5=lenB ps 2 5 from qrH (lo:=2) (hi:=5),jw]
  exact Ev.andP (fun _=>Ev.last (qi5 (qmK h (fun x hx=>hx.Ba))))
def pinS (ps:List qan) (j:Nat):Bool:=allN (neB (ps.map qan.Ba) j) j&&((nameB (gt ps j).Ba&&inI (gt ps j).Bt 0 500)&&(bif decide (j+1=ps.length) then ((gt ps j).Bv==2)&&(((gt ps j).Bt==0)&&!(gt ps j).Bq) else ((gt ps j).Bv==1)))
theorem qwn {ps:List qan}:(lenB ps 2 5&&allN (pinS ps) ps.length)=pinsB ps:=by
 have e:namesB (ps.map qan.Ba)=allN (fun j=>nameB (gt ps j).Ba&&allN (neB (ps.map qan.Ba) j) j) ps.length:=by
  unfold namesB
  rw [jv]
  exact qhk (fun j hj=>by rw [qjF hj])
 unfold pinsB
 rw [e,←Bool.and_assoc,Bool.and_comm (allN (pinB ps) ps.length),Bool.and_assoc,←qla]
 congr 1
 refine qhk (fun j hj=>?_)
 unfold pinS pinB
 cases hd:decide (j+1=ps.length)
 ·simp only [cond_false]
  cases allN (neB (ps.map qan.Ba) j) j<;>cases nameB (gt ps j).Ba<;>cases inI (gt ps j).Bt 0 500<;>cases ((gt ps j).Bv==1)<;>rfl
 ·simp only [cond_true]
  cases hcap:((gt ps j).Bt==0)
  ·simp
  ·have:inI (gt ps j).Bt 0 500=true:=by rw [beq_iff_eq] at hcap;rw [hcap];rfl
   rw [this]
   cases allN (neB (ps.map qan.Ba) j) j<;>cases nameB (gt ps j).Ba<;>cases ((gt ps j).Bv==2)<;>cases (gt ps j).Bq<;>rfl
theorem qth {c:qB} (h:okL qmy c.Bc):Ev (fun n=>qjw n c) (bif pinsB c.Bc then (((clkN c.Bc c.Bc.length:Nat):Int),true) else (0,false)):=by
 have hl:=h.len
 have hL2:∀ j,j<c.Bc.length→Ev (fun n=>qeh c (j:Int) (gt c.Bc j) n 0) (bif allN (neB (c.Bc.map qan.Ba) j) j then .nxt (j:Int) else .ret (0,false)):=by
  intro j hj
  refine qd1 ?_ (fun i hi X hX=>Ev.succ ?_)
  ·exact Ev.succ (by simp only [qeh,qk (jb _),cond_false];exact .done)
  ·simp only [qeh,qj hi,cond_true,qz (show i<c.Bc.length by omega),ja,qg8,wS i]
   unfold neB
   rw [qjF (g:=qan.Ba) (show i<c.Bc.length by omega),qjF (g:=qan.Ba) hj]
   exact Ev.chkP1 (fun _=>hX)
 have hL1:Ev (fun n=>qcH c n 0 0) (bif allN (pinS c.Bc) c.Bc.length then .nxt (((clkN c.Bc c.Bc.length:Nat):Int),(c.Bc.length:Int)) else .ret (0,false)):=by
  refine loopN (Lf:=qcH c) (S:=fun j=>((clkN c.Bc j:Nat):Int)) (pinS c.Bc) (fun n=>?_) (fun j hj hp X hX=>?_)
  ·simp only [qcH,qk (jb _),cond_false]
  ·have hn:clkN c.Bc j≤j:=qfo
   have ejl:((j:Int)==W64 ((c.Bc.length:Int)-1))=decide (j+1=c.Bc.length):=lastE hj hl
   have elt:decide ((j:Int)<W64 ((c.Bc.length:Int)-1)) = !decide (j+1=c.Bc.length):=by
    rw [qas (by omega) (by omega),jh];simp;omega
   simp only [qcH,qj hj,cond_true,qz hj,ja,wS j,qid (show clkN c.Bc j<9223372036854775807 by omega),ejl,elt,qcw]
   unfold pinS
   refine Ev.bind (hL2 j hj) ?_
   cases ha:allN (neB (c.Bc.map qan.Ba) j) j
   ·exact .done
   ·simp only [cond_true,jw]
    refine Ev.chkT ?_ (fun h1=>?_)
    ·exact Ev.or (qlL (qml h hj).Ba) (fun _=>.done)
    ·refine Ev.chkT1 ?_ (fun h2=>?_)
     ·cases decide (j+1=c.Bc.length)
      ·exact .done
      ·simp only [cond_true,jX,cond_false,bne,qcP]
       cases ((gt c.Bc j).Bv==2)<;>cases ((gt c.Bc j).Bt==0)<;>cases (gt c.Bc j).Bq<;>exact .done
     ·have hX:=hX (by unfold pinS;rw [ha,h1,h2];rfl)
      have hck:clkN c.Bc (j+1)=clkN c.Bc j+(bif (gt c.Bc j).Bq then 1 else 0):=rfl
      rw [hck] at hX
      cases hc:(gt c.Bc j).Bq
      ·rw [hc] at hX;exact Ev.ff rfl hX
      ·rw [hc] at hX;exact Ev.tt rfl hX
 rw [←qwn]
 unfold qjw
 refine Ev.guard ?_ (fun h1=>?_)
 ·unfold lenB
  have e1:decide ((c.Bc.length:Int)<2) = !decide (2≤c.Bc.length):=by rw [jh];simp;omega
  have e2:decide ((c.Bc.length:Int) > 5) = !decide (c.Bc.length≤5):=by rw [jh];simp;omega
  rw [e1,e2]
  cases decide (2≤c.Bc.length)<;>cases decide (c.Bc.length≤5)<;>exact .done
 ·refine Ev.bind hL1 ?_
  cases allN (pinS c.Bc) c.Bc.length<;>exact .done
def mnL (xs:List Int):Int:=(xs.drop 1).foldl (fun m y=>if y<m then y else m) (at0 xs 0)
def mxL (xs:List Int):Int:=(xs.drop 1).foldl (fun m y=>if y > m then y else m) (at0 xs 0)
theorem qpB {t:qv} (h:tableB t=true):1≤t.Bi.length:=by
 unfold tableB axisB lenB at h
 simp only [jc,decide_eq_true_eq] at h
 obtain ⟨⟨⟨h1,_⟩,_⟩,⟨⟨h2,_⟩,_⟩,h3,_⟩:=h
 rw [h3]
 exact Nat.mul_pos h1 h2
theorem qwS {xs:List Int} (h1:1≤xs.length) (hl:xs.length≤1048576):Ev (fun n=>qgt n xs) (mnL xs):=by
 have hL:=(qon (Lf:=fun n t j=>qcB xs n t j) (xs:=xs) (step:=fun (m y:Int)=>if y<m then y else m) (fin:=fun t=>(t,(xs.length:Int))) 1 (at0 xs 0) (fun _ _=>True) h1 trivial (fun _ _ _ _=>trivial)
  (fun n t=>by simp only [qcB,qk (jb _),cond_false])
  (fun j t hj _ X hX=>by simpa only [qcB,qj hj,cond_true,qh7 hj,ja,wS j] using hX)).1
 unfold qgt
 rw [show decide ((xs.length:Int)<1)=false by simp;omega,show idx xs (0:Int)=some (at0 xs 0) from qag (j:=0) (by omega)]
 simp only [cond_false,ja]
 exact Ev.bind hL .done
theorem qty {t:qv} (h:qie t):Ev (fun n=>qgE n t) (bif tableB t then (⟨mnL t.Bi,mxL t.Bi⟩,0) else (⟨0,0⟩,1)):=by
 unfold qgE
 refine Ev.chk1 (qsp h) (fun hb=>?_)
 have h1:=qpB hb
 have hl:=h.Bi.len
 have hL:=(qon (Lf:=fun n (t':Int × Int) j=>qcz t n t'.1 t'.2 j) (xs:=t.Bi) (step:=fun (m:Int × Int) y=>(if y<m.1 then y else m.1,if y > m.2 then y else m.2)) (fin:=fun t'=>(t'.1,t'.2,(t.Bi.length:Int))) 1 (at0 t.Bi 0,at0 t.Bi 0) (fun _ _=>True) h1 trivial (fun _ _ _ _=>trivial)
  (fun n t=>by simp only [qcz,qk (jb _),cond_false])
  (fun j t hj _ X hX=>by simpa only [qcz,qj hj,cond_true,qh7 hj,ja,wS j] using hX)).1
 have hf:∀ (ys:List Int) (a b:Int),ys.foldl (fun (m:Int × Int) y=>(if y<m.1 then y else m.1,if y > m.2 then y else m.2)) (a,b)=(ys.foldl (fun m y=>if y<m then y else m) a,ys.foldl (fun m y=>if y > m then y else m) b):=by
  intro ys
  induction ys with
  | nil=>intro a b;rfl
  | cons y ys ih=>intro a b;simp only [List.foldl_cons,ih]
 rw [hf] at hL
 rw [show idx t.Bi (0:Int)=some (at0 t.Bi 0) from qag (j:=0) (by omega)]
 simp only [ja]
 exact Ev.bind hL .done
def tabB (pos:Bool) (t:qv):Bool:=tableB t&&(!pos || decide (0≤mnL t.Bi))
def tablesB (ts:List qv) (pos:Bool):Bool:=decide (ts.length=2)&&ts.all (tabB pos)
theorem qlH {ts:List qv} {pos:Bool} (h:okL qie ts):Ev (fun n=>qfa n ts pos) (tablesB ts pos):=by
 have hl:=h.len
 have h1:Ev (fun n=>qaw n ts pos) (ixL (fun x=>!tabB pos x) ts) :=
  qfw (fin:=(ts.length:Int)) (Lf:=qM ts pos) (pf:=fun n x=>qgs n x pos) (fun x hx=>by
    unfold qgs tabB
    refine Ev.or (qtm (h.2 x hx)) (fun hb=>?_)
    cases pos
    ·exact .done
    ·refine Ev.tt rfl (Ev.bind (qwS (qpB hb) (h.2 x hx).Bi.len) (Ev.now ?_))
     congr 1
     rw [jh];simp)
   (fun n=>by simp only [qM,qk (jb _),cond_false])
   (fun n j x hx=>by
    have hj:=(List.getElem?_eq_some_iff.1 hx).1
    simp only [qM,qj hj,cond_true,qaq hx,ja,wS j])
   (fun n=>by unfold qaw;congr 1;funext o;cases o<;>rfl)
 unfold qfa qaR tablesB
 rw [show ((ts.length:Int)==2)=decide (ts.length=2) by rw [jh];simp;omega]
 refine Ev.andP (fun _=>Ev.bind (Ev.bind h1 (Ev.now rfl)) (Ev.now ?_))
 rw [qnc,qpq]
theorem qh1 {ts:List qv} {pos:Bool} (h:okL qie ts):Ev (fun n=>qda n ts pos) (tablesB ts pos):=by
 unfold qda tablesB
 rw [show ((ts.length:Int) != 2) = !decide (ts.length=2) by rw [jh];simp;omega]
 simp only [qcP]
 refine Ev.andP (fun h2=>?_)
 have h2:ts.length=2:=by simpa using h2
 have hL:Ev (fun n=>qcy ts pos n 0) (bif allN (fun j=>tabB pos (gt ts j)) ts.length then .nxt (2:Int) else .ret false):=by
  refine qd1 (len:=ts.length) ?_ (fun j hj X hX=>Ev.succ ?_)
  ·rw [h2];exact Ev.succ (by simp only [qcy];exact .done)
  ·simp only [qcy,show decide ((j:Int)<2)=true by simp;omega,cond_true,qz hj,ja,wS j]
   refine Ev.bind (qty (qml h hj)) ?_
   unfold tabB
   cases tableB (gt ts j)
   ·exact .done
   ·simp only [cond_true,jw]
    refine Ev.ff rfl ?_
    cases pos
    ·exact hX
    ·refine Ev.tt rfl ?_
     rw [show decide (mnL (gt ts j).Bi<0) = !decide (0≤mnL (gt ts j).Bi) by rw [jh];simp]
     simp only [qcP]
     exact Ev.okP1 (fun _=>hX)
 rw [qhT]
 refine Ev.bind hL ?_
 cases allN (fun j=>tabB pos (gt ts j)) ts.length<;>exact .done
end Go.Fw


namespace Go.Fw
open Go
set_option maxRecDepth 100000
theorem qfc {α:Type} [Inhabited α] {xs:List α} {x:Int} (h0:0≤x) (h1:x<xs.length):idx xs x=some (gt xs x.toNat):=by
  have:=qz (xs:=xs) (j:=x.toNat) (by omega)
  rwa [←qfU h0] at this
theorem qq0 {q:Nat→Bool} {m n:Nat} (h:m≤n):cntP q m≤cntP q n:=by
  induction n with
  | zero =>
    obtain rfl:m=0:=by omega
    exact jb _
  | succ n ih =>
    rcases Nat.lt_or_eq_of_le h with h|rfl
    · exact Nat.le_trans (ih (by omega)) (Nat.le_add_right _ _)
    · exact jb _
theorem qmH {m k:Nat}:decide ((m:Int)≤(k:Int))=decide (m≤k):=by rw [jh];simp
theorem qsz {q:Nat→Bool} {n i j:Nat} (hi:i<j) (hj:j<n) (h1:q i=true) (h2:q j=true):2≤cntP q n:=by
  have e1:cntP q (i+1)=cntP q i+1:=by rw [cntP,h1];rfl
  have e2:cntP q (j+1)=cntP q j+1:=by rw [cntP,h2];rfl
  have m1:=qq0 (q:=q) (show i+1≤j by omega)
  have m2:=qq0 (q:=q) (show j+1≤n by omega)
  omega
theorem qsh {q:Nat→Bool} {n i j:Nat} (hn:cntP q n≤1) (hi:i<n) (hj:j<n) (h1:q i=true) (h2:q j=true):i=j:=by
  rcases Nat.lt_trichotomy i j with h|h|h
  · have:=qsz h hj h1 h2;omega
  · exact h
  · have:=qsz h hi h2 h1;omega
def clkIx (ps:List qan):Int:=ixL (fun p=>p.Bq) ps
def clkAt (ps:List qan) (x:Int):Bool:=(gt ps x.toNat).Bq
theorem quU {c:qB} (hl:c.Bc.length≤1048576):Ev (fun n=>qhc n c) (clkIx c.Bc):=by
  unfold qhc
  refine Ev.bind (b:=clkIx c.Bc) ?_ .done
  exact qfw (fin:=(c.Bc.length:Int)) (Lf:=qR c.Bc) (pf:=fun n x=>qhy n x) (fun _ _=>.done)
    (fun n=>by simp only [qR,qk (jb _),cond_false])
    (fun n j x hx=>by
      have hj:=(List.getElem?_eq_some_iff.1 hx).1
      simp only [qR,qj hj,cond_true,qaq hx,ja,wS j])
    (fun n=>by unfold qbc;congr 1;funext o;cases o<;>rfl)
def arcI (ps:List qan) (a:qP):Bool :=
  bif (a.Be==4) || (a.Be==5) then
    (a.Bn==0)&&(((a.Bd.length:Int)==0)&&(tablesB a.Bp false&&((a.Bk==clkIx ps)&&(decide (a.Bk ≥ 0)&&(inI a.To 0 (ps.length-2)&&!(a.To==a.Bk))))))
  else
    (tablesB a.Bp true&&(tablesB a.Bd true&&((a.To==(ps.length:Int)-1)&&inI a.Bk 0 (ps.length-2)))) &&
      (bif a.Be==1 then !clkAt ps a.Bk&&inI a.Bn 1 3 else (bif (a.Be==2) || (a.Be==3) then clkAt ps a.Bk&&(a.Bn==0) else false))
def arcS (ps:List qan) (a:qP):Bool :=
  (inI a.Bk 0 (ps.length-2)&&inI a.To 0 (ps.length-1)) &&
    (bif a.Be==1 then !clkAt ps a.Bk&&((a.To==(ps.length:Int)-1)&&(inI a.Bn 1 3&&(tablesB a.Bp true&&tablesB a.Bd true)))
     else (bif (a.Be==2) || (a.Be==3) then clkAt ps a.Bk&&((a.To==(ps.length:Int)-1)&&((a.Bn==0)&&(tablesB a.Bp true&&tablesB a.Bd true)))
     else (bif (a.Be==4) || (a.Be==5) then clkAt ps a.Bk&&(decide (a.To<(ps.length:Int)-1)&&(!clkAt ps a.To&&((a.Bn==0)&&(tablesB a.Bp false&&((a.Bd.length:Int)==0))))) else false)))
theorem qoO {c d:Bool}:(bif c then some c else some d)=some (c || d):=by cases c<;>rfl
theorem qrW {c d:Bool}:(bif c then some true else some d)=some (c || d):=by cases c<;>rfl
theorem qs7 {n:Nat} {k:Int}:qjj n k=some ((k==4) || (k==5)):=by simp only [qjj,qrW]
theorem qvb {c:qB} {a:qP} (h:okL qmy c.Bc) (ha:qnh a) (hm:2≤c.Bc.length):Ev (fun n=>qhe n c a) (arcI c.Bc a):=by
  have hl:=h.len
  have e1:W64 ((c.Bc.length:Int)-1)=(c.Bc.length:Int)-1:=qeF (by omega)
  have e2:W64 ((c.Bc.length:Int)-1-1)=(c.Bc.length:Int)-2:=by rw [qas (by omega) (by omega)];omega
  simp only [qhe,qs7,ja,qfZ,qdS,qcd,e1,e2,qdf,qoO,bne]
  unfold arcI
  refine Ev.iff (fun _=>Ev.last ?_) (fun _=>Ev.guardB ?_ (fun hb=>?_))
  · exact Ev.andP fun _=>Ev.andP fun _=>Ev.and (qlH ha.Bp) fun _=>Ev.bind (quU hl) (Ev.andP fun _=>Ev.andP fun _=>Ev.andP fun _=>.done)
  · refine Ev.or (qlH ha.Bp) fun _=>Ev.or (qlH ha.Bd) fun _=>?_
    simp only [qcP]
    exact Ev.orBP fun _=>.done
  · have hf:0≤a.Bk∧a.Bk≤(c.Bc.length:Int)-2:=by
      simp only [jc,qaX] at hb
      exact hb.2.2.2
    simp only [qfc hf.1 (show a.Bk<(c.Bc.length:Int) by omega),ja]
    exact Ev.iff (fun _=>Ev.andP fun _=>.done) (fun _=>Ev.iff (fun _=>Ev.andP fun _=>.done) (fun _=>.done))
theorem qt7 {c:qB} {a:qP} (h:okL qmy c.Bc) (ha:qnh a) (hm:2≤c.Bc.length):Ev (fun n=>qkB n c a) (arcS c.Bc a):=by
  have hl:=h.len
  have e1:W64 ((c.Bc.length:Int)-1)=(c.Bc.length:Int)-1:=qeF (by omega)
  have e2:W64 ((c.Bc.length:Int)-1-1)=(c.Bc.length:Int)-2:=by rw [qas (by omega) (by omega)];omega
  simp only [qkB,ja,e1,e2,qcw,qoO]
  unfold arcS
  refine Ev.guardB ?_ (fun hb=>?_)
  · simp only [qcP]
    exact Ev.orBP fun _=>.done
  · have hf:(0≤a.Bk∧a.Bk≤(c.Bc.length:Int)-2)∧(0≤a.To∧a.To≤(c.Bc.length:Int)-1):=by
      simp only [jc,qaX] at hb
      exact hb
    simp only [qfc hf.1.1 (show a.Bk<(c.Bc.length:Int) by omega),qfc hf.2.1 (show a.To<(c.Bc.length:Int) by omega),ja]
    refine Ev.iff (fun _=>?_) (fun _=>Ev.iff (fun _=>?_) (fun _=>Ev.iff (fun _=>?_) (fun _=>.done)))
    · exact Ev.andP fun _=>Ev.andP fun _=>Ev.andP fun _=>Ev.and (qh1 ha.Bp) fun _=>Ev.last (qh1 ha.Bd)
    · exact Ev.andP fun _=>Ev.andP fun _=>Ev.andP fun _=>Ev.and (qh1 ha.Bp) fun _=>Ev.last (qh1 ha.Bd)
    · exact Ev.andP fun _=>Ev.andP fun _=>Ev.andP fun _=>Ev.andP fun _=>Ev.and (qh1 ha.Bp) fun _=>.done
theorem qoB {ps:List qan} (h1:clkN ps ps.length≤1) {x:Int} (hx:0≤x):clkIx ps=x↔x<ps.length∧clkAt ps x=true:=by
  unfold clkIx ixL
  cases hf:ps.findIdx? (fun p=>p.Bq) with
  | some j =>
    obtain ⟨hj,hp,_⟩:=List.findIdx?_eq_some_iff_getElem.1 hf
    have hpj:(gt ps j).Bq=true:=by rw [qeu hj];exact hp
    constructor
    · intro e
      have e:(j:Int)=x:=e
      subst e
      exact ⟨by omega,by unfold clkAt;rw [jp];exact hpj⟩
    · rintro ⟨hl,hc⟩
      have:=qsh h1 hj (show x.toNat<ps.length by omega) hpj hc
      show (j:Int)=x
      omega
  | none =>
    have hn:=List.findIdx?_eq_none_iff.1 hf
    constructor
    · intro e
      have e:(-1:Int)=x:=e
      omega
    · rintro ⟨hl,hc⟩
      have hxl:x.toNat<ps.length:=by omega
      unfold clkAt at hc
      rw [qeu hxl] at hc
      have:=hn _ (jo hxl)
      rw [hc] at this
      exact absurd this (by decide)
theorem qgo {ps:List qan} (h:pinsB ps=true):(2≤ps.length∧ps.length≤5)∧clkAt ps ((ps.length:Int)-1)=false:=by
  unfold pinsB lenB at h
  simp only [jc,decide_eq_true_eq] at h
  refine ⟨h.2.1,?_⟩
  have h1:=qak.1 h.1 (ps.length-1) (by omega)
  unfold pinB at h1
  rw [show decide (ps.length-1+1=ps.length)=true by simp;omega] at h1
  simp only [cond_true,jc,jE] at h1
  unfold clkAt
  rw [show ((ps.length:Int)-1).toNat=ps.length-1 by omega]
  exact h1.2.2
theorem qvj {ps:List qan} {a:qP} (h:pinsB ps=true) (h1:clkN ps ps.length≤1):arcI ps a=arcS ps a:=by
  obtain ⟨⟨hm,hm5⟩,hlast⟩:=qgo h
  rw [jh]
  unfold arcI arcS
  cases h45:((a.Be==4) || (a.Be==5)) with
  | true =>
    have k1:(a.Be==1)=false:=by simp at h45 ⊢;omega
    have k23:((a.Be==2) || (a.Be==3))=false:=by simp at h45 ⊢;omega
    rw [k1,k23]
    simp only [cond_true,cond_false,jc,qaX,decide_eq_true_eq,beq_iff_eq,jE,beq_eq_false_iff_ne,ne_eq]
    constructor
    · rintro ⟨hs,hsl,hd,hf,hf0,ht,hne⟩
      obtain ⟨hl,hc⟩:=(qoB h1 hf0).1 hf.symm
      have hfl:a.Bk ≠ (ps.length:Int)-1:=by intro e;rw [e,hlast] at hc;cases hc
      refine ⟨⟨⟨hf0,by omega⟩,⟨ht.1,by omega⟩⟩,hc,by omega,?_,hs,hd,hsl⟩
      cases hct:clkAt ps a.To with
      | false=>rfl
      | true =>
        have:=(qoB h1 ht.1).2 ⟨by omega,hct⟩
        omega
    · rintro ⟨⟨hf,ht⟩,hc,hlt,hct,hs,hd,hsl⟩
      have:=(qoB h1 hf.1).2 ⟨by omega,hc⟩
      refine ⟨hs,hsl,hd,this.symm,hf.1,⟨ht.1,by omega⟩,?_⟩
      intro e
      rw [e,hc] at hct
      cases hct
  | false =>
    simp only [cond_false,jc,qaX,beq_iff_eq]
    cases (a.Be==1)
    · cases ((a.Be==2) || (a.Be==3))
      · simp
      · simp only [cond_true,cond_false,jc,beq_iff_eq]
        constructor
        · rintro ⟨⟨h1,h2,h3,h4⟩,h5,h6⟩
          exact ⟨⟨h4,by omega⟩,h5,h3,h6,h1,h2⟩
        · rintro ⟨⟨h4,h7⟩,h5,h3,h6,h1,h2⟩
          exact ⟨⟨h1,h2,h3,h4⟩,h5,h6⟩
    · simp only [cond_true,jc,qaX,jE,beq_iff_eq]
      constructor
      · rintro ⟨⟨h1,h2,h3,h4⟩,h5,h6⟩
        exact ⟨⟨h4,by omega⟩,h5,h3,h6,h1,h2⟩
      · rintro ⟨⟨h4,h7⟩,h5,h3,h6,h1,h2⟩
        exact ⟨⟨h1,h2,h3,h4⟩,h5,h6⟩
theorem qq4 {ps:List qan} {a:qP} (h:arcS ps a=true):1≤a.Be∧a.Be≤5:=by
  unfold arcS at h
  rw [jc] at h
  have h:=h.2
  cases h1:(a.Be==1)
  · cases h2:((a.Be==2) || (a.Be==3))
    · cases h4:((a.Be==4) || (a.Be==5))
      · rw [h1,h2,h4] at h;cases h
      · simp at h4;omega
    · simp at h2;omega
  · simp at h1;omega
def sameArc (x y:qP):Bool:=(x.Be==y.Be)&&((x.Bk==y.Bk)&&(x.To==y.To))
def newArc (ar:List qP) (j:Nat):Bool:=allN (fun i=>!sameArc (gt ar i) (gt ar j)) j
theorem qsU {c:qB} (h:okL qmy c.Bc) (ha:okL qnh c.Ar) (hm:2≤c.Bc.length):Ev (fun n=>qf5 n c) (allN (fun j=>arcI c.Bc (gt c.Ar j)&&newArc c.Ar j) c.Ar.length&&decide (c.Ar.length≤8)):=by
  have hl:=ha.len
  have h1:∀ (ar:List qP) (y:qP),ar.length≤1048576→Ev (fun n=>qao n ar y) (ar.any fun x=>sameArc x y):=by
    intro ar y hl
    unfold qao
    refine Ev.bind (b:=ixL (fun x=>sameArc x y) ar) (qfw (fin:=(ar.length:Int)) (Lf:=qK ar y) (pf:=fun n x=>qeU n x y) (fun x _=>?_)
      (fun n=>by simp only [qK,qk (jb _),cond_false])
      (fun n j x hx=>by
        have hj:=(List.getElem?_eq_some_iff.1 hx).1
        simp only [qK,qj hj,cond_true,qaq hx,ja,wS j])
      (fun n=>by unfold qaT;congr 1;funext o;cases o<;>rfl)) (Ev.now (by rw [qnc]))
    unfold qeU sameArc
    exact Ev.andP fun _=>Ev.andP fun _=>.done
  have hL:Ev (fun n=>qch c n 0) (bif allN (fun j=>arcI c.Bc (gt c.Ar j)&&newArc c.Ar j) c.Ar.length then .nxt (c.Ar.length:Int) else .ret false):=by
    refine qd1 ?_ (fun j hj X hX=>Ev.succ ?_)
    · exact Ev.succ (by simp only [qch,qk (jb _),cond_false];exact .done)
    · simp only [qch,qj hj,cond_true,qz hj,ja,quq (Nat.le_of_lt hj),wS j]
      refine Ev.chk (qvb h (qml ha hj) hm) fun _=>Ev.chkT1 ?_ (fun _=>hX)
      refine (h1 _ _ (by simp;omega)).cast ?_
      rw [quP (Nat.le_of_lt hj)];rfl
  unfold qf5
  refine Ev.bind hL ?_
  cases allN (fun j=>arcI c.Bc (gt c.Ar j)&&newArc c.Ar j) c.Ar.length
  · exact .done
  · refine Ev.now ?_
    show some (decide ((c.Ar.length:Int)≤((8:Nat):Int)))=some (true&&decide (c.Ar.length≤8))
    rw [qmH,jw]
def hasB (ar:List qP) (k:Int):Bool:=ar.any fun a=>a.Be==k
theorem qoC {c:qB} {k:Int} (hl:c.Ar.length≤1048576):Ev (fun n=>qc2 n c k) (hasB c.Ar k):=by
  unfold qc2 qa2
  exact Ev.last (Ev.bind (b:=ixL (fun x=>x.Be==k) c.Ar) (qfw (fin:=(c.Ar.length:Int)) (Lf:=qU c.Ar k) (pf:=fun n x=>qjd n x k) (fun x _=>.done)
      (fun n=>by simp only [qU,qk (jb _),cond_false])
      (fun n j x hx=>by
        have hj:=(List.getElem?_eq_some_iff.1 hx).1
        simp only [qU,qj hj,cond_true,qaq hx,ja,wS j])
      (fun n=>by unfold qbn;congr 1;funext o;cases o<;>rfl)) (Ev.now (by rw [qnc];rfl)))
def kindN (ar:List qP) (k:Nat) (j:Nat):Nat:=cntP (fun i=>(gt ar i).Be==(k:Int)) j
theorem qra {ar:List qP} {k:Nat}:decide (((kindN ar k ar.length:Nat):Int) > 0)=hasB ar k:=by
  rw [show decide (((kindN ar k ar.length:Nat):Int) > 0)=decide (0<kindN ar k ar.length) by simp]
  unfold kindN hasB
  rw [qr2,qtk]
theorem qsN {ar:List qP} {k:Nat}:(((kindN ar k ar.length:Nat):Int)==0) = !hasB ar k:=by
  rw [←qra,jh];simp
theorem qrX {c:qB} (ha:okL qnh c.Ar) (hk:∀ j,j<c.Ar.length→1≤(gt c.Ar j).Be∧(gt c.Ar j).Be≤5):Ev (fun n=>qiG n c) (vecC (fun k=>kindN c.Ar k c.Ar.length) 6):=by
  have hl:=ha.len
  have hL:Ev (fun n=>qcY c n (vecC (fun _=>0) 6) 0) (vecC (fun k=>kindN c.Ar k c.Ar.length) 6,(c.Ar.length:Int)):=by
    refine loopF (Lf:=qcY c) (S:=fun j=>vecC (fun k=>kindN c.Ar k j) 6) (len:=c.Ar.length) (fun n=>?_) (fun j hj X hX=>?_)
    · simp only [qcY,qk (jb _),cond_false]
    · obtain ⟨k1,k5⟩:=hk j hj
      have ek:(gt c.Ar j).Be=(((gt c.Ar j).Be.toNat:Nat):Int):=qfU (by omega)
      have hc:kindN c.Ar (gt c.Ar j).Be.toNat j≤j:=qfo
      simp only [qcY,qj hj,cond_true,qz hj,ja,wS j]
      rw [ek,qjK (show (gt c.Ar j).Be.toNat<6 by omega)]
      simp only [ja]
      rw [qqV (c:=fun k=>kindN c.Ar k j) (by show kindN c.Ar _ j<_;omega)]
      have:vecC (fun i=>kindN c.Ar i j+(bif decide ((gt c.Ar j).Be.toNat=i) then 1 else 0)) 6=vecC (fun k=>kindN c.Ar k (j+1)) 6:=by
        refine qjJ (fun k _=>?_)
        show _=kindN c.Ar k j+(bif (gt c.Ar j).Be==(k:Int) then 1 else 0)
        congr 2
        rw [jh];simp;omega
      rw [this]
      exact hX
  unfold qiG
  rw [show mkS 6 (0:Int)=some (vecC (fun _=>0) 6) from qmI (m:=6) (by omega)]
  simp only [ja]
  exact Ev.bind hL .done
def kindB (c:qB):Bool :=
  bif c.Be==1 then (((clkN c.Bc c.Bc.length:Nat):Int)==0)&&(((c.Br.length:Int)==((2 ^ (c.Bc.length-1):Nat):Int))&&(c.Br.all fun x=>inI x 0 1))
  else bif c.Be==2 then (((clkN c.Bc c.Bc.length:Nat):Int)==1)&&(((c.Br.length:Int)==0)&&(!hasB c.Ar 1&&!(hasB c.Ar 2==hasB c.Ar 3)))
  else bif c.Be==3 then (((clkN c.Bc c.Bc.length:Nat):Int)==1)&&(((c.Br.length:Int)==0)&&(hasB c.Ar 1&&(hasB c.Ar 2&&!hasB c.Ar 3)))
  else false
theorem qqP {c:qB} (h:kindB c=true):clkN c.Bc c.Bc.length≤1:=by
  unfold kindB at h
  cases h1:(c.Be==1)
  · cases h2:(c.Be==2)
    · cases h3:(c.Be==3)
      · rw [h1,h2,h3] at h;cases h
      · rw [h1,h2,h3] at h
        simp only [cond_true,cond_false,jc,beq_iff_eq] at h
        omega
    · rw [h1,h2] at h
      simp only [cond_true,cond_false,jc,beq_iff_eq] at h
      omega
  · rw [h1] at h
    simp only [cond_true,jc,beq_iff_eq] at h
    omega
theorem qr9 {m:Nat} (h1:2≤m) (h2:m≤5):shlS 1 (W64 ((m:Int)-1))=some ((2 ^ (m-1):Nat):Int)∧shlS 1 (IntKind.wrap .u64 (W64 ((m:Int)-1)))=some ((2 ^ (m-1):Nat):Int):=by
  have:m=2∨m=3∨m=4∨m=5:=by omega
  rcases this with rfl|rfl|rfl|rfl<;>exact ⟨by decide,by decide⟩
theorem qsi {c:qB} (hc:qmU c) (hm:2≤c.Bc.length) (hm5:c.Bc.length≤5):Ev (fun n=>qfq n c) (kindB c):=by
  have hl:=hc.Bc.len
  have hL:Ev (fun n=>qaU c n 0 0) (((clkN c.Bc c.Bc.length:Nat):Int),(c.Bc.length:Int)):=by
    refine loopF (Lf:=qaU c) (S:=fun j=>((clkN c.Bc j:Nat):Int)) (len:=c.Bc.length) (fun n=>?_) (fun j hj X hX=>?_)
    · simp only [qaU,qk (jb _),cond_false]
    · have hn:clkN c.Bc j≤j:=qfo
      simp only [qaU,qj hj,cond_true,qz hj,ja,wS j,qid (show clkN c.Bc j<9223372036854775807 by omega)]
      have hck:clkN c.Bc (j+1)=clkN c.Bc j+(bif (gt c.Bc j).Bq then 1 else 0):=rfl
      rw [hck] at hX
      cases hc:(gt c.Bc j).Bq
      · rw [hc] at hX;exact Ev.ff rfl hX
      · rw [hc] at hX;exact Ev.tt rfl hX
  unfold qfq kindB
  refine Ev.bind hL ?_
  simp only [qdS,qcd,ja,(qr9 hm hm5).1]
  have hal:=hc.Ar.len
  refine Ev.iff (fun _=>?_) (fun _=>Ev.iff (fun _=>?_) (fun _=>Ev.iff (fun _=>?_) (fun _=>.done)))
  · exact Ev.andP fun _=>Ev.andP fun _=>Ev.last (qer hc.Br.len)
  · exact Ev.andP fun _=>Ev.andP fun _=>Ev.bind (qoC hal) (Ev.andP fun _=>Ev.bind (qoC hal) (Ev.bind (qoC hal) .done))
  · exact Ev.andP fun _=>Ev.andP fun _=>Ev.and (qoC hal) fun _=>Ev.and (qoC hal) fun _=>Ev.bind (qoC hal) .done
def cellB (c:qB):Bool :=
  nameB c.Ba&&(pinsB c.Bc&&((allN (fun j=>arcI c.Bc (gt c.Ar j)&&newArc c.Ar j) c.Ar.length&&decide (c.Ar.length≤8))&&(inI c.Ca 0 100000&&(inI c.Bu 0 100000&&kindB c))))
theorem qt2 {c:qB} (hc:qmU c):Ev (fun n=>qkw n c) (cellB c):=by
  simp only [qkw,qop hc.Ba,qdf,ja]
  unfold cellB
  refine Ev.andP fun _=>Ev.and (qsM hc.Bc) fun hp=>?_
  obtain ⟨⟨hm,hm5⟩,_⟩:=qgo hp
  exact Ev.and (qsU hc.Bc hc.Ar hm) fun _=>Ev.andP fun _=>Ev.andP fun _=>Ev.last (qsi hc hm hm5)
theorem qti {c:qB} (hc:qmU c):Ev (fun n=>qkz n c) (cellB c):=by
  have hal:=hc.Ar.len
  have htl:=hc.Br.len
  have e:cellB c=((pinsB c.Bc&&(nameB c.Ba&&(decide (c.Ar.length≤8)&&(inI c.Ca 0 100000&&inI c.Bu 0 100000))))&&(allN (fun j=>arcS c.Bc (gt c.Ar j)&&newArc c.Ar j) c.Ar.length&&kindB c)):=by
    unfold cellB
    cases hk:kindB c
    · simp
    · cases hp:pinsB c.Bc
      · simp
      · rw [qhk (fun j _=>by rw [qvj hp (qqP hk)])]
        cases nameB c.Ba<;>cases allN (fun j=>arcS c.Bc (gt c.Ar j)&&newArc c.Ar j) c.Ar.length<;>cases decide (c.Ar.length≤8)<;>cases inI c.Ca 0 100000<;>cases inI c.Bu 0 100000<;>rfl
  rw [e]
  unfold qkz
  refine Ev.bind (qth hc.Bc) ?_
  cases hp:pinsB c.Bc
  · exact .done
  · obtain ⟨⟨hm,hm5⟩,_⟩:=qgo hp
    simp only [cond_true,jw,jX,cond_false]
    refine Ev.guardB ?_ (fun _=>?_)
    · simp only [qcw,ja,qcP]
      refine Ev.orB (qlL hc.Ba) fun _=>?_
      rw [show decide ((c.Ar.length:Int) > 8) = !decide (c.Ar.length≤8) by rw [jh];simp;omega,qcP]
      exact Ev.orBP fun _=>Ev.orBP fun _=>.done
    · have hL2:∀ j,j<c.Ar.length→Ev (fun n=>qc8 c (j:Int) (gt c.Ar j) n 0) (bif newArc c.Ar j then .nxt (j:Int) else .ret false):=by
        intro j hj
        refine qd1 ?_ (fun i hi X hX=>Ev.succ ?_)
        · exact Ev.succ (by simp only [qc8,qk (jb _),cond_false];exact .done)
        · simp only [qc8,qj hi,cond_true,qz (show i<c.Ar.length by omega),ja,wS i]
          unfold sameArc
          cases ((gt c.Ar i).Be==(gt c.Ar j).Be)
          · exact hX
          · cases ((gt c.Ar i).Bk==(gt c.Ar j).Bk)
            · exact hX
            · cases ((gt c.Ar i).To==(gt c.Ar j).To)
              · exact hX
              · exact .done
      have hL1:Ev (fun n=>qeZ c n 0) (bif allN (fun j=>arcS c.Bc (gt c.Ar j)&&newArc c.Ar j) c.Ar.length then .nxt (c.Ar.length:Int) else .ret false):=by
        refine qd1 ?_ (fun j hj X hX=>Ev.succ ?_)
        · exact Ev.succ (by simp only [qeZ,qk (jb _),cond_false];exact .done)
        · simp only [qeZ,qj hj,cond_true,qz hj,ja,wS j]
          refine Ev.chk (qt7 hc.Bc (qml hc.Ar hj) hm) fun _=>Ev.bind (hL2 j hj) ?_
          cases newArc c.Ar j
          · exact .done
          · exact hX
      have hL3:Ev (fun n=>qe7 c n 0) (bif (c.Br.all fun x=>inI x 0 1) then .nxt (c.Br.length:Int) else .ret false) :=
        qnX (fun n=>by simp only [qe7,qk (jb _),cond_false]) (fun j hj X hX=>by
          simp only [qe7,qj hj,cond_true,qh7 hj,ja,qcw,wS j,qcP]
          exact Ev.okP1 fun _=>hX)
      refine Ev.bind hL1 ?_
      cases hA:allN (fun j=>arcS c.Bc (gt c.Ar j)&&newArc c.Ar j) c.Ar.length
      · exact .done
      · have hk:∀ j,j<c.Ar.length→1≤(gt c.Ar j).Be∧(gt c.Ar j).Be≤5:=fun j hj=>by
          have:=qak.1 hA j hj
          rw [jc] at this
          exact qq4 this.1
        simp only [cond_true,jw]
        refine Ev.bind (qrX hc.Ar hk) ?_
        simp only [(qr9 hm hm5).2,ja,
          show idx (vecC (fun k=>kindN c.Ar k c.Ar.length) 6) (1:Int)=some ((kindN c.Ar 1 c.Ar.length:Nat):Int) from qjK (k:=1) (by omega),
          show idx (vecC (fun k=>kindN c.Ar k c.Ar.length) 6) (2:Int)=some ((kindN c.Ar 2 c.Ar.length:Nat):Int) from qjK (k:=2) (by omega),
          show idx (vecC (fun k=>kindN c.Ar k c.Ar.length) 6) (3:Int)=some ((kindN c.Ar 3 c.Ar.length:Nat):Int) from qjK (k:=3) (by omega),qra,qsN]
        unfold kindB
        refine Ev.iff (fun _=>?_) (fun _=>Ev.iff (fun _=>?_) (fun _=>Ev.iff (fun _=>?_) (fun _=>.done)))
        · refine Ev.bind hL3 ?_
          cases (c.Br.all fun x=>inI x 0 1)
          · exact Ev.now (by simp)
          · exact (Ev.andP (fun _=>.done)).cast (by rw [Bool.and_true])
        · refine (Ev.andP fun _=>Ev.andP fun _=>Ev.andP fun _=>.done).cast ?_
          cases (((clkN c.Bc c.Bc.length:Nat):Int)==1)<;>cases ((c.Br.length:Int)==0)<;>cases hasB c.Ar ((1:Nat):Int)<;>cases hasB c.Ar ((2:Nat):Int)<;>cases hasB c.Ar ((3:Nat):Int)<;>rfl
        · refine (Ev.andP fun _=>Ev.andP fun _=>Ev.andP fun _=>Ev.andP fun _=>.done).cast ?_
          cases (((clkN c.Bc c.Bc.length:Nat):Int)==1)<;>cases ((c.Br.length:Int)==0)<;>cases hasB c.Ar ((1:Nat):Int)<;>cases hasB c.Ar ((2:Nat):Int)<;>cases hasB c.Ar ((3:Nat):Int)<;>rfl
def libB (l:qp):Bool:=l.Aq.all cellB&&(decide (l.Aq.length≤8)&&namesB (l.Aq.map qB.Ba))
theorem qrG {l:qp} (h:qhl l):Ev (fun n=>qh0 n l) (libB l):=by
  have hl:=h.Aq.len
  have hL:Ev (fun n=>qcl l n ([]:List ByteArray) 0) (bif allN (fun j=>cellB (gt l.Aq j)) l.Aq.length then .nxt (l.Aq.map qB.Ba,(l.Aq.length:Int)) else .ret false):=by
    refine loopN (Lf:=qcl l) (S:=fun j=>(l.Aq.take j).map qB.Ba) (fun j=>cellB (gt l.Aq j)) (fun n=>?_) (fun j hj hp X hX=>?_)
    · simp only [qcl,qk (jb _),cond_false,jB]
    · simp only [qcl,qj hj,cond_true,qz hj,ja,qkW hj hl,qfm (g:=qB.Ba) hj,wS j]
      exact Ev.chk1 (qt2 (qml h.Aq hj)) hX
  unfold qh0 libB
  rw [qhT]
  refine Ev.bind hL ?_
  cases allN (fun j=>cellB (gt l.Aq j)) l.Aq.length
  · exact .done
  · simp only [cond_true,jw,show decide ((l.Aq.length:Int)≤8)=decide (l.Aq.length≤8) from qmH (k:=8)]
    exact Ev.andP fun _=>Ev.last (qi5 (qmK h.Aq (fun x hx=>hx.Ba)))
end Go.Fw


namespace Go.Fw
open Go
set_option maxRecDepth 100000
theorem qsY {c:qB} (h:cellB c=true):nameB c.Ba=true:=by
 unfold cellB at h;rw [jc] at h;exact h.1
theorem qik {c:qB} (h:cellB c=true):pinsB c.Bc=true:=by
 unfold cellB at h;simp only [jc] at h;exact h.2.1
theorem qqm {l:qp} (h:qhl l):Ev (fun n=>qh3 n l) (libB l):=by
 have hl:=h.Aq.len
 have hL2:∀ j,j<l.Aq.length→Ev (fun n=>qdk l (j:Int) n 0) (bif allN (neB (l.Aq.map qB.Ba) j) j then .nxt (j:Int) else .ret false):=by
  intro j hj
  refine qd1 ?_ (fun i hi X hX=>Ev.succ ?_)
  ·exact Ev.succ (by simp only [qdk,qk (jb _),cond_false];exact .done)
  ·simp only [qdk,qj hi,cond_true,qz (show i<l.Aq.length by omega),qz hj,ja,qg8,wS i]
   unfold neB
   rw [qjF (g:=qB.Ba) (show i<l.Aq.length by omega),qjF (g:=qB.Ba) hj]
   exact Ev.chkP1 (fun _=>hX)
 have hL1:Ev (fun n=>qdh l n 0) (bif allN (fun j=>cellB (gt l.Aq j)&&allN (neB (l.Aq.map qB.Ba) j) j) l.Aq.length then .nxt (l.Aq.length:Int) else .ret false):=by
  refine qd1 ?_ (fun j hj X hX=>Ev.succ ?_)
  ·exact Ev.succ (by simp only [qdh,qk (jb _),cond_false];exact .done)
  ·simp only [qdh,qj hj,cond_true,qz hj,ja,wS j]
   refine Ev.chk (qti (qml h.Aq hj)) fun _=>Ev.bind (hL2 j hj) ?_
   cases allN (neB (l.Aq.map qB.Ba) j) j
   ·exact .done
   ·exact hX
 have e:libB l=(allN (fun j=>cellB (gt l.Aq j)&&allN (neB (l.Aq.map qB.Ba) j) j) l.Aq.length&&decide (l.Aq.length≤8)):=by
  unfold libB namesB
  rw [qhT,jv,Bool.and_comm (decide (l.Aq.length≤8)),←Bool.and_assoc,←qla]
  congr 1
  refine qhk (fun j hj=>?_)
  rw [qjF (g:=qB.Ba) hj]
  cases hc:cellB (gt l.Aq j)
  ·rfl
  ·rw [qsY hc];rfl
 rw [e]
 unfold qh3
 refine Ev.bind hL1 ?_
 cases allN (fun j=>cellB (gt l.Aq j)&&allN (neB (l.Aq.map qB.Ba) j) j) l.Aq.length
 ·exact .done
 ·refine Ev.now ?_
  show some (decide ((l.Aq.length:Int)≤((8:Nat):Int)))=some (true&&decide (l.Aq.length≤8))
  rw [qmH,jw]
theorem qkZ {c c':Nat→Nat} {m:Nat} {x:Int} (h0:0≤x) (h1:x<m) (hc:c x.toNat<9223372036854775807) (he:∀ k,k<m→c' k=c k+(bif x==(k:Int) then 1 else 0)) :
  idx (vecC c m) x=some (c x.toNat:Int)∧setS (vecC c m) x (W64 ((c x.toNat:Int)+1))=vecC c' m:=by
 have ex:x=(x.toNat:Int):=qfU h0
 have e1:=qjK (c:=c) (m:=m) (k:=x.toNat) (by omega)
 have e2:=qqV (c:=c) (m:=m) (k:=x.toNat) hc
 rw [←ex] at e1 e2
 refine ⟨e1,e2.trans (qjJ (fun k hk=>?_))⟩
 rw [he k hk]
 congr 2
 rw [jh];simp;omega
def netB (d:qd) (x:Int):Bool:=inI x 0 ((d.Am.length:Int)-1)
theorem qr3 {n:Nat} {d:qd} {x:Int} (hl:d.Am.length≤1048576):qdg n d x=some (netB d x):=by
 simp only [qdg,qhh,ja,qdf,qeF (show d.Am.length≤9223372036854775807 by omega)];rfl
theorem qqZ {n:Nat} {d:qd} {x:Int} (hl:d.Am.length≤1048576):qai n x 0 (W64 ((d.Am.length:Int)-1))=some (netB d x):=by
 rw [qcw,qeF (show d.Am.length≤9223372036854775807 by omega)];rfl
def hasNamesB (d:qd):Bool:=(decide (d.Aa.length≤14)&&(decide (d.Am.length≤30)&&decide (d.Aj.length≤8)))&&(namesB (d.Aa.map qn.Ba)&&(namesB d.Am&&namesB (d.Aj.map qah.Ba)))
theorem qrY {d:qd} (h:qjB d):Ev (fun n=>qes n d) (hasNamesB d):=by
 have hli:=h.Aa.len
 have hlp:=h.Aj.len
 have hL1:Ev (fun n=>qaZ d n ([]:List ByteArray) 0) (d.Aa.map qn.Ba,(d.Aa.length:Int)):=by
  refine loopF (Lf:=qaZ d) (S:=fun j=>(d.Aa.take j).map qn.Ba) (len:=d.Aa.length) (fun n=>?_) (fun j hj X hX=>?_)
  ·simp only [qaZ,qk (jb _),cond_false,jB]
  ·simpa only [qaZ,qj hj,cond_true,qz hj,ja,qkW hj hli,qfm (g:=qn.Ba) hj,wS j] using hX
 have hL2:Ev (fun n=>qa0 d n ([]:List ByteArray) 0) (d.Aj.map qah.Ba,(d.Aj.length:Int)):=by
  refine loopF (Lf:=qa0 d) (S:=fun j=>(d.Aj.take j).map qah.Ba) (len:=d.Aj.length) (fun n=>?_) (fun j hj X hX=>?_)
  ·simp only [qa0,qk (jb _),cond_false,jB]
  ·simpa only [qa0,qj hj,cond_true,qz hj,ja,qkW hj hlp,qfm (g:=qah.Ba) hj,wS j] using hX
 unfold qes hasNamesB
 refine Ev.bind hL1 (Ev.bind hL2 ?_)
 simp only [jv]
 rw [show decide ((d.Aa.length:Int)≤14)=decide (d.Aa.length≤14) from qmH (k:=14),show decide ((d.Am.length:Int)≤30)=decide (d.Am.length≤30) from qmH (k:=30),show decide ((d.Aj.length:Int)≤8)=decide (d.Aj.length≤8) from qmH (k:=8)]
 rw [Bool.and_assoc,Bool.and_assoc]
 exact Ev.andP fun _=>Ev.andP fun _=>Ev.andP fun _=>Ev.and (qi5 (qmK h.Aa (fun x hx=>hx.Ba))) fun _=>Ev.and (qi5 h.Am) fun _=>Ev.last (qi5 (qmK h.Aj (fun x hx=>hx.Ba)))
def instB (l:qp) (d:qd) (x:qn):Bool:=inI x.Bs 0 ((l.Aq.length:Int)-1)&&(((x.Am.length:Int)==((gt l.Aq x.Bs.toNat).Bc.length:Int))&&x.Am.all (netB d))
theorem qqB {d:qd} {l:qp} {x:qn} (hn:d.Am.length≤1048576) (hc:l.Aq.length≤1048576) (hx:x.Am.length≤1048576):Ev (fun n=>qdE n d l x) (instB l d x):=by
 simp only [qdE,qfT,ja,qdf,qeF (show l.Aq.length≤9223372036854775807 by omega)]
 unfold instB
 refine Ev.andP fun hI=>?_
 rw [qaX] at hI
 rw [qfc hI.1 (by omega)]
 simp only [ja]
 refine Ev.andP fun _=>Ev.bind (b:=x.Am.any fun y=>!netB d y) ?_ (Ev.now (by rw [qpq]))
 unfold qaE
 exact Ev.bind (b:=ixL (fun y=>!netB d y) x.Am) (qfw (fin:=(x.Am.length:Int)) (Lf:=qG x.Am d) (pf:=fun n y=>qc3 n y d) (fun y _=>⟨0,fun n _=>by simp only [qc3,qr3 hn,ja]⟩)
   (fun n=>by simp only [qG,qk (jb _),cond_false])
   (fun n j y hx=>by
    have hj:=(List.getElem?_eq_some_iff.1 hx).1
    simp only [qG,qj hj,cond_true,qaq hx,ja,wS j])
   (fun n=>by unfold qaP;congr 1;funext o;cases o<;>rfl)) (Ev.now (by rw [qnc]))
def portB (d:qd) (p:qah):Bool:=inI p.Bv 1 2&&netB d p.Bx
theorem qxI {x:Int}:inI x 1 2=((x==1) || (x==2)):=by
 unfold inI;rw [jh];simp;omega
def lastN (x:qn):Int:=at0 x.Am (x.Am.length-1)
theorem qss {x:qn} (h1:1≤x.Am.length) (h2:x.Am.length≤1048576):idx x.Am (W64 ((x.Am.length:Int)-1))=some (lastN x):=by
 rw [qeF (by omega),show ((x.Am.length:Int)-1)=((x.Am.length-1:Nat):Int) by omega,qag (by omega)];rfl
theorem quC {d:qd} {x:qn} (h1:1≤x.Am.length) (h:x.Am.all (netB d)=true):0≤lastN x∧lastN x<d.Am.length:=by
 rw [qge (d:=0),qak] at h
 have:=h (x.Am.length-1) (by omega)
 unfold netB at this
 rw [qaX] at this
 unfold lastN at0
 omega
theorem qp8 {l:qp} {d:qd} {x:qn} (hl:libB l=true) (h:instB l d x=true):1≤x.Am.length∧0≤lastN x∧lastN x<d.Am.length:=by
 unfold instB at h
 simp only [jc,qaX,beq_iff_eq] at h
 obtain ⟨h1,h2,h3⟩:=h
 unfold libB at hl
 simp only [jc] at hl
 have hc:=hl.1
 rw [qhT,qak] at hc
 have:=qgo (qik (hc x.Bs.toNat (by omega)))
 have h4:1≤x.Am.length:=by omega
 exact ⟨h4,quC h4 h3⟩
def drvI (d:qd) (k j:Nat):Nat:=cntP (fun i=>lastN (gt d.Aa i)==(k:Int)) j
def drvP (d:qd) (k j:Nat):Nat:=cntP (fun i=>((gt d.Aj i).Bv==1)&&((gt d.Aj i).Bx==(k:Int))) j
def drvB (d:qd):Bool:=allN (fun k=>((drvI d k d.Aa.length+drvP d k d.Aj.length:Nat):Int)==1) d.Am.length
def designB (l:qp) (d:qd):Bool:=(libB l&&hasNamesB d)&&(d.Aa.all (instB l d)&&(d.Aj.all (portB d)&&drvB d))
theorem qow {d:qd} {k j:Nat}:drvI d k (j+1)=drvI d k j+(bif lastN (gt d.Aa j)==(k:Int) then 1 else 0):=rfl
theorem qmP {d:qd} {k j:Nat}:drvP d k (j+1)=drvP d k j+(bif ((gt d.Aj j).Bv==1)&&((gt d.Aj j).Bx==(k:Int)) then 1 else 0):=rfl
theorem qsE {l:qp} {d:qd} (h:qhl l) (hd:qjB d):Ev (fun n=>qiz n l d) (designB l d):=by
 have hli:=hd.Aa.len
 have hlp:=hd.Aj.len
 have hln:=hd.Am.len
 have hlc:=h.Aq.len
 unfold qiz designB
 refine Ev.guardB (Ev.or (qrG h) fun _=>Ev.neg (qrY hd)) fun hb=>?_
 rw [jc] at hb
 rw [qmI (m:=d.Am.length) (by omega)]
 simp only [ja]
 have hL1:Ev (fun n=>qcW l d n (vecC (fun _=>0) d.Am.length) 0) (bif allN (fun j=>instB l d (gt d.Aa j)) d.Aa.length then .nxt (vecC (fun k=>drvI d k d.Aa.length) d.Am.length,(d.Aa.length:Int)) else .ret false):=by
  refine loopN (Lf:=qcW l d) (S:=fun j=>vecC (fun k=>drvI d k j) d.Am.length) (fun j=>instB l d (gt d.Aa j)) (fun n=>?_) (fun j hj hp X hX=>?_)
  ·simp only [qcW,qk (jb _),cond_false]
  ·simp only [qcW,qj hj,cond_true,qz hj,ja,wS j]
   have hxl:=(qml hd.Aa hj).Am.len
   refine Ev.chk1 (qqB hln hlc hxl) fun hi=>?_
   obtain ⟨h1,h2,h3⟩:=qp8 hb.1 hi
   have hc:drvI d (lastN (gt d.Aa j)).toNat j≤j:=qfo
   obtain ⟨e1,e2⟩:=qkZ (c:=fun k=>drvI d k j) (c':=fun k=>drvI d k (j+1)) h2 h3 (by show drvI _ _ _<_;omega) (fun k _=>qow)
   simp only [qss h1 hxl,ja,e1,e2]
   exact hX hi
 have hL2:Ev (fun n=>qca d n (vecC (fun k=>drvI d k d.Aa.length) d.Am.length) 0) (bif allN (fun j=>portB d (gt d.Aj j)) d.Aj.length then .nxt (vecC (fun k=>drvI d k d.Aa.length+drvP d k d.Aj.length) d.Am.length,(d.Aj.length:Int)) else .ret false):=by
  refine loopN (Lf:=qca d) (S:=fun j=>vecC (fun k=>drvI d k d.Aa.length+drvP d k j) d.Am.length) (fun j=>portB d (gt d.Aj j)) (fun n=>?_) (fun j hj hp X hX=>?_)
  ·simp only [qca,qk (jb _),cond_false]
  ·simp only [qca,qj hj,cond_true,qz hj,ja,qr3 hln,bne,wS j]
   refine Ev.chkT1 ?_ fun hi=>?_
   ·unfold portB
    rw [qxI]
    cases ((gt d.Aj j).Bv==1)<;>cases ((gt d.Aj j).Bv==2)<;>exact .done
   ·have hX:=hX hi
    unfold portB netB at hi
    simp only [jc,qaX] at hi
    have hc1:drvI d (gt d.Aj j).Bx.toNat d.Aa.length≤d.Aa.length:=qfo
    have hc2:drvP d (gt d.Aj j).Bx.toNat j≤j:=qfo
    cases h1:((gt d.Aj j).Bv==1)
    ·have:vecC (fun k=>drvI d k d.Aa.length+drvP d k (j+1)) d.Am.length=vecC (fun k=>drvI d k d.Aa.length+drvP d k j) d.Am.length:=by
      refine qjJ (fun k _=>?_)
      rw [qmP,h1];rfl
     rw [this] at hX
     exact hX
    ·obtain ⟨e1,e2⟩:=qkZ (c:=fun k=>drvI d k d.Aa.length+drvP d k j) (c':=fun k=>drvI d k d.Aa.length+drvP d k (j+1)) (x:=(gt d.Aj j).Bx) (m:=d.Am.length) hi.2.1 (by omega) (by show drvI _ _ _+drvP _ _ _<_;omega) (fun k _=>by rw [qmP,h1,jw];omega)
     simp only [cond_true,ja,e1,e2]
     exact hX
 rw [qhT,qhT]
 refine Ev.bind hL1 ?_
 cases allN (fun j=>instB l d (gt d.Aa j)) d.Aa.length
 ·exact .done
 ·refine Ev.bind hL2 ?_
  cases allN (fun j=>portB d (gt d.Aj j)) d.Aj.length
  ·exact .done
  ·simp only [cond_true,jw]
   unfold qbB
   refine Ev.bind (b:=(vecC (fun k=>drvI d k d.Aa.length+drvP d k d.Aj.length) d.Am.length).any fun x=>!(x==1)) (Ev.bind (b:=ixL (fun x=>!(x==1)) (vecC (fun k=>drvI d k d.Aa.length+drvP d k d.Aj.length) d.Am.length)) (qfw (fin:=(((vecC (fun k=>drvI d k d.Aa.length+drvP d k d.Aj.length) d.Am.length).length:Nat):Int)) (Lf:=qae (vecC (fun k=>drvI d k d.Aa.length+drvP d k d.Aj.length) d.Am.length)) (pf:=fun n y=>qje n y) (fun y _=>.done)
    (fun n=>by simp only [qae,qk (jb _),cond_false])
    (fun n j y hx=>by
     have hj:=(List.getElem?_eq_some_iff.1 hx).1
     have:j<d.Am.length:=by rw [qmg] at hj;exact hj
     simp only [qae,qj hj,cond_true,qaq hx,ja,wS j])
    (fun n=>by unfold qbR;congr 1;funext o;cases o<;>rfl)) (Ev.now (by rw [qnc]))) (Ev.now ?_)
   rw [qpq,qge (d:=0),qmg]
   unfold drvB
   congr 1
   exact qhk (fun k hk=>by
    have:=qse (c:=fun k=>drvI d k d.Aa.length+drvP d k d.Aj.length) hk
    unfold at0 at this
    rw [this])
theorem qsB {l:qp} {d:qd} (h:qhl l) (hd:qjB d):Ev (fun n=>qiw n l d) (d.Aa.all (instB l d)&&d.Aj.all (portB d)):=by
 have hli:=hd.Aa.len
 have hlp:=hd.Aj.len
 have hln:=hd.Am.len
 have hlc:=h.Aq.len
 have hL2:∀ x:qn,x.Am.length≤1048576→Ev (fun n=>qdN d x n 0) (bif x.Am.all (netB d) then .nxt (x.Am.length:Int) else .ret false):=fun x hx =>
  qnX (fun n=>by simp only [qdN,qk (jb _),cond_false]) (fun j hj X hX=>by
   simp only [qdN,qj hj,cond_true,qh7 hj,ja,qqZ hln,wS j,qcP]
   exact Ev.okP1 fun _=>hX)
 have hL1:Ev (fun n=>qdR l d n 0) (bif allN (fun j=>instB l d (gt d.Aa j)) d.Aa.length then .nxt (d.Aa.length:Int) else .ret false):=by
  refine qd1 ?_ (fun j hj X hX=>Ev.succ ?_)
  ·exact Ev.succ (by simp only [qdR,qk (jb _),cond_false];exact .done)
  ·simp only [qdR,qj hj,cond_true,qz hj,ja,qcw,qeF (show l.Aq.length≤9223372036854775807 by omega),wS j,bne]
   have hxl:=(qml hd.Aa hj).Am.len
   unfold instB
   rw [←Bool.and_assoc]
   refine Ev.chkT ?_ fun _=>Ev.bind (hL2 _ hxl) ?_
   ·simp only [qcP]
    refine Ev.orBP fun hI=>?_
    rw [qaX] at hI
    rw [qfc hI.1 (by omega)]
    exact .done
   ·cases (gt d.Aa j).Am.all (netB d)
    ·exact .done
    ·exact hX
 have hL3:Ev (fun n=>qdW d n 0) (bif allN (fun j=>portB d (gt d.Aj j)) d.Aj.length then .nxt (d.Aj.length:Int) else .ret false):=by
  refine qd1 ?_ (fun j hj X hX=>Ev.succ ?_)
  ·exact Ev.succ (by simp only [qdW,qk (jb _),cond_false];exact .done)
  ·simp only [qdW,qj hj,cond_true,qz hj,ja,qqZ hln,wS j]
   simp only [qcw,ja,qcP]
   unfold portB
   exact Ev.okP fun _=>Ev.okP1 fun _=>hX
 unfold qiw
 rw [qhT,qhT]
 refine Ev.bind hL1 ?_
 cases allN (fun j=>instB l d (gt d.Aa j)) d.Aa.length
 ·exact .done
 ·refine Ev.bind hL3 ?_
  cases allN (fun j=>portB d (gt d.Aj j)) d.Aj.length<;>exact .done
theorem qri {l:qp} {d:qd} (h:qhl l) (hd:qjB d):Ev (fun n=>qiC n l d) (designB l d):=by
 have hli:=hd.Aa.len
 have hlp:=hd.Aj.len
 have hln:=hd.Am.len
 have hlc:=h.Aq.len
 have e:designB l d=((libB l&&(decide (d.Aa.length≤14)&&(decide (d.Am.length≤30)&&(decide (d.Aj.length≤8)&&(d.Aa.all (instB l d)&&d.Aj.all (portB d))))))&&((namesB (d.Aa.map qn.Ba)&&(namesB (d.Aj.map qah.Ba)&&namesB d.Am))&&drvB d)):=by
  unfold designB hasNamesB
  generalize libB l=a1
  generalize decide (d.Aa.length≤14)=a2
  generalize decide (d.Am.length≤30)=a3
  generalize decide (d.Aj.length≤8)=a4
  generalize d.Aa.all (instB l d)=a5
  generalize d.Aj.all (portB d)=a6
  generalize namesB (d.Aa.map qn.Ba)=a7
  generalize namesB (d.Aj.map qah.Ba)=a8
  generalize namesB d.Am=a9
  generalize drvB d=a10
  rw [jh]
  simp only [jc]
  constructor
  ·rintro ⟨⟨h1,⟨h2,h3,h4⟩,h7,h9,h8⟩,h5,h6,h10⟩
   exact ⟨⟨h1,h2,h3,h4,h5,h6⟩,⟨h7,h8,h9⟩,h10⟩
  ·rintro ⟨⟨h1,h2,h3,h4,h5,h6⟩,⟨h7,h8,h9⟩,h10⟩
   exact ⟨⟨h1,⟨h2,h3,h4⟩,h7,h9,h8⟩,h5,h6,h10⟩
 rw [e]
 unfold qiC
 refine Ev.guardB ?_ fun hb=>?_
 ·refine Ev.or (qqm h) fun _=>?_
  rw [show decide ((d.Aa.length:Int) > 14) = !decide (d.Aa.length≤14) by rw [jh];simp;omega,show decide ((d.Am.length:Int) > 30) = !decide (d.Am.length≤30) by rw [jh];simp;omega,show decide ((d.Aj.length:Int) > 8) = !decide (d.Aj.length≤8) by rw [jh];simp;omega]
  simp only [qcP]
  exact Ev.orBP fun _=>Ev.orBP fun _=>Ev.orBP fun _=>Ev.neg (qsB h hd)
 ·simp only [jc] at hb
  obtain ⟨hlib,_,_,_,hI,hP⟩:=hb
  rw [qhT,qak] at hI hP
  have hL1:Ev (fun n=>qcT d n ([]:List ByteArray) 0) (d.Aa.map qn.Ba,(d.Aa.length:Int)):=by
   refine loopF (Lf:=qcT d) (S:=fun j=>(d.Aa.take j).map qn.Ba) (len:=d.Aa.length) (fun n=>?_) (fun j hj X hX=>?_)
   ·simp only [qcT,qk (jb _),cond_false,jB]
   ·simpa only [qcT,qj hj,cond_true,qz hj,ja,qkW hj hli,qfm (g:=qn.Ba) hj,wS j] using hX
  have hL2:Ev (fun n=>qc1 d n ([]:List ByteArray) 0) (d.Aj.map qah.Ba,(d.Aj.length:Int)):=by
   refine loopF (Lf:=qc1 d) (S:=fun j=>(d.Aj.take j).map qah.Ba) (len:=d.Aj.length) (fun n=>?_) (fun j hj X hX=>?_)
   ·simp only [qc1,qk (jb _),cond_false,jB]
   ·simpa only [qc1,qj hj,cond_true,qz hj,ja,qkW hj hlp,qfm (g:=qah.Ba) hj,wS j] using hX
  have hL3:Ev (fun n=>qcZ d n (vecC (fun _=>0) d.Am.length) 0) (vecC (fun k=>drvI d k d.Aa.length) d.Am.length,(d.Aa.length:Int)):=by
   refine loopF (Lf:=qcZ d) (S:=fun j=>vecC (fun k=>drvI d k j) d.Am.length) (len:=d.Aa.length) (fun n=>?_) (fun j hj X hX=>?_)
   ·simp only [qcZ,qk (jb _),cond_false]
   ·have hxl:=(qml hd.Aa hj).Am.len
    obtain ⟨h1,h2,h3⟩:=qp8 hlib (hI j hj)
    have hc:drvI d (lastN (gt d.Aa j)).toNat j≤j:=qfo
    obtain ⟨e1,e2⟩:=qkZ (c:=fun k=>drvI d k j) (c':=fun k=>drvI d k (j+1)) h2 h3 (by show drvI _ _ _<_;omega) (fun k _=>qow)
    simpa only [qcZ,qj hj,cond_true,qz hj,ja,wS j,qss h1 hxl,e1,e2] using hX
  have hL4:Ev (fun n=>qcf d n (vecC (fun k=>drvI d k d.Aa.length) d.Am.length) 0) (vecC (fun k=>drvI d k d.Aa.length+drvP d k d.Aj.length) d.Am.length,(d.Aj.length:Int)):=by
   refine loopF (Lf:=qcf d) (S:=fun j=>vecC (fun k=>drvI d k d.Aa.length+drvP d k j) d.Am.length) (len:=d.Aj.length) (fun n=>?_) (fun j hj X hX=>?_)
   ·simp only [qcf,qk (jb _),cond_false]
   ·have hi:=hP j hj
    unfold portB netB at hi
    simp only [jc,qaX] at hi
    have hc1:drvI d (gt d.Aj j).Bx.toNat d.Aa.length≤d.Aa.length:=qfo
    have hc2:drvP d (gt d.Aj j).Bx.toNat j≤j:=qfo
    simp only [qcf,qj hj,cond_true,qz hj,ja,wS j]
    cases h1:((gt d.Aj j).Bv==1)
    ·have:vecC (fun k=>drvI d k d.Aa.length+drvP d k (j+1)) d.Am.length=vecC (fun k=>drvI d k d.Aa.length+drvP d k j) d.Am.length:=by
      refine qjJ (fun k _=>?_)
      rw [qmP,h1];rfl
     rw [this] at hX
     exact hX
    ·obtain ⟨e1,e2⟩:=qkZ (c:=fun k=>drvI d k d.Aa.length+drvP d k j) (c':=fun k=>drvI d k d.Aa.length+drvP d k (j+1)) (x:=(gt d.Aj j).Bx) (m:=d.Am.length) hi.2.1 (by omega) (by show drvI _ _ _+drvP _ _ _<_;omega) (fun k _=>by rw [qmP,h1,jw];omega)
     simp only [cond_true,ja,e1,e2]
     exact hX
  have hL5:Ev (fun n=>qdO (vecC (fun _=>0) d.Am.length) (vecC (fun k=>drvI d k d.Aa.length+drvP d k d.Aj.length) d.Am.length) n 0) (bif drvB d then .nxt (d.Am.length:Int) else .ret false):=by
   refine qd1 ?_ (fun j hj X hX=>Ev.succ ?_)
   ·exact Ev.succ (by simp only [qdO,qmg,qk (jb _),cond_false];exact .done)
   ·simp only [qdO,qmg,qj hj,cond_true,qjK hj,ja,bne,qcP,wS j]
    exact Ev.okP1 fun _=>hX
  refine Ev.bind hL1 (Ev.bind hL2 ?_)
  refine Ev.guardB (Ev.or (ql5 (qmK hd.Aa (fun x hx=>hx.Ba))) fun _=>Ev.or (ql5 (qmK hd.Aj (fun x hx=>hx.Ba))) fun _=>Ev.neg (ql5 hd.Am)) fun _=>?_
  rw [qmI (m:=d.Am.length) (by omega)]
  simp only [ja]
  refine Ev.bind hL3 (Ev.bind hL4 (Ev.bind hL5 ?_))
  cases drvB d<;>exact .done
end Go.Fw


namespace Go.Fw
open Go
set_option maxRecDepth 100000
theorem qv9 {m k:Nat}:decide ((m:Int)<(k:Int)) = !decide (k≤m):=by rw [jh];simp
theorem qwZ {m k:Nat}:decide ((m:Int) > (k:Int)) = !decide (m≤k):=by rw [jh];simp
def treeB (w:qQ) (j:Nat):Bool:=bif decide (j=0) then (at0 w.Ak j==-1)&&(at0 w.Bw j==0) else inI (at0 w.Ak j) 0 ((j:Int)-1)
def wireB (w:qQ) (s:Int):Bool :=
 lenB w.Ak 1 8&&(((w.Bw.length:Int)==(w.Ak.length:Int))&&(((w.Bt.length:Int)==(w.Ak.length:Int))&&(allN (treeB w) w.Ak.length &&
  ((w.Bw.all fun x=>inI x 0 1000)&&((w.Bt.all fun x=>inI x 0 500)&&(((w.Bl.length:Int)==s)&&(w.Bl.all fun x=>inI x 0 ((w.Ak.length:Int)-1))))))))
theorem qtW {w:qQ} (hl:w.Ak.length≤1048576) (hr:((w.Bw.length:Int)==(w.Ak.length:Int))=true):Ev (fun n=>qgI n w) (allN (treeB w) w.Ak.length):=by
 rw [beq_iff_eq] at hr
 have hL:Ev (fun n=>qaV w n 0) (bif allN (treeB w) w.Ak.length then .nxt (w.Ak.length:Int) else .ret false):=by
  refine qd1 ?_ (fun j hj X hX=>Ev.succ ?_)
  ·exact Ev.succ (by simp only [qaV,qk (jb _),cond_false];exact .done)
  ·simp only [qaV,qj hj,cond_true,qag hj,ja,qdf,wS j,bne,qcP]
   unfold treeB
   by_cases h0:j=0
   ·subst h0
    rw [show idx w.Bw (0:Int)=some (at0 w.Bw 0) from qag (j:=0) (by omega)]
    simp only [ja]
    refine Ev.tt (by simp) (Ev.okP fun _=>Ev.okP1 fun _=>Ev.ff (by simp) hX)
   ·have e1:decide (j=0)=false:=by simp;omega
    have e2:((j:Int)==0)=false:=by simp;omega
    have e3:decide ((j:Int) > 0)=true:=by simp;omega
    rw [e1,e2,e3,qeF (show j≤9223372036854775807 by omega)]
    simp only [cond_false,cond_true]
    exact Ev.okP1 fun _=>hX
 unfold qgI
 refine Ev.bind hL ?_
 cases allN (treeB w) w.Ak.length<;>exact .done
theorem quD {w:qQ} {s:Int} (h:qn3 w):Ev (fun n=>qkF n w s) (wireB w s):=by
 have hl:=h.Ak.len
 simp only [qkF,qa9,ja,qdf,qeF (show w.Ak.length≤9223372036854775807 by omega)]
 unfold wireB
 rw [show inI (w.Ak.length:Int) 1 8=lenB w.Ak 1 8 from qrH (lo:=1) (hi:=8)]
 exact Ev.andP fun _=>Ev.andP fun hr=>Ev.andP fun _=>Ev.and (qtW hl hr) fun _=>Ev.and (qer h.Bw.len) fun _=>Ev.and (qer h.Bt.len) fun _=>Ev.andP fun _=>Ev.last (qer h.Bl.len)
theorem qta {w:qQ} {s:Int} (h:qn3 w):Ev (fun n=>qky n w s) (wireB w s):=by
 have hl:=h.Ak.len
 have hsl:=h.Bl.len
 have e:wireB w s=((decide (1≤w.Ak.length)&&(decide (w.Ak.length≤8)&&(((w.Bw.length:Int)==(w.Ak.length:Int))&&(((w.Bt.length:Int)==(w.Ak.length:Int))&&((w.Bl.length:Int)==s)))))&&(allN (fun j=>(inI (at0 w.Bt j) 0 500&&inI (at0 w.Bw j) 0 1000)&&treeB w j) w.Ak.length&&(w.Bl.all fun x=>inI x 0 ((w.Ak.length:Int)-1)))):=by
  unfold wireB lenB
  cases h1:((w.Bw.length:Int)==(w.Ak.length:Int))
  ·simp
  ·cases h2:((w.Bt.length:Int)==(w.Ak.length:Int))
   ·simp
   ·rw [beq_iff_eq] at h1 h2
    rw [qla,qla]
    rw [qge (p:=fun x=>inI x 0 1000) (d:=0),qge (p:=fun x=>inI x 0 500) (d:=0),show w.Bw.length=w.Ak.length by omega,show w.Bt.length=w.Ak.length by omega]
    show _=(_&&((allN (fun j=>inI (w.Bt.getD j 0) 0 500) _&&allN (fun j=>inI (w.Bw.getD j 0) 0 1000) _&&_)&&_))
    generalize allN (fun j=>inI (w.Bt.getD j 0) 0 500) w.Ak.length=a1
    generalize allN (fun j=>inI (w.Bw.getD j 0) 0 1000) w.Ak.length=a2
    generalize allN (fun j=>treeB w j) w.Ak.length=a3
    generalize ((w.Bl.length:Int)==s)=a4
    generalize decide (1≤w.Ak.length)=a5
    generalize decide (w.Ak.length≤8)=a6
    generalize (w.Bl.all fun x=>inI x 0 ((w.Ak.length:Int)-1))=a7
    cases a1<;>cases a2<;>cases a3<;>cases a4<;>cases a5<;>cases a6<;>rfl
 rw [e]
 unfold qky
 refine Ev.guardB ?_ fun hb=>?_
 ·rw [show decide ((w.Ak.length:Int)<1) = !decide (1≤w.Ak.length) from qv9 (k:=1),show decide ((w.Ak.length:Int) > 8) = !decide (w.Ak.length≤8) from qwZ (k:=8)]
  simp only [bne,qcP]
  exact Ev.orBP fun _=>Ev.orBP fun _=>Ev.orBP fun _=>Ev.orBP fun _=>.done
 ·simp only [jc,beq_iff_eq] at hb
  have hL1:Ev (fun n=>qcq w n 0) (bif allN (fun j=>(inI (at0 w.Bt j) 0 500&&inI (at0 w.Bw j) 0 1000)&&treeB w j) w.Ak.length then .nxt (w.Ak.length:Int) else .ret false):=by
   refine qd1 ?_ (fun j hj X hX=>Ev.succ ?_)
   ·exact Ev.succ (by simp only [qcq,qk (jb _),cond_false];exact .done)
   ·simp only [qcq,qj hj,cond_true,qag hj,qag (show j<w.Bt.length by omega),qag (show j<w.Bw.length by omega),ja,qcw,wS j,bne,qcP]
    refine Ev.chkT (Ev.orBP fun _=>.done) fun _=>?_
    unfold treeB
    by_cases h0:j=0
    ·subst h0
     refine Ev.tt (by simp) (Ev.okP fun _=>Ev.okP1 fun _=>Ev.ff (by simp) hX)
    ·have e1:decide (j=0)=false:=by simp;omega
     have e2:((j:Int)==0)=false:=by simp;omega
     have e3:decide ((j:Int) > 0)=true:=by simp;omega
     rw [e1,e2,e3,qeF (show j≤9223372036854775807 by omega)]
     simp only [cond_false,cond_true]
     exact Ev.okP1 fun _=>hX
  have hL2:Ev (fun n=>qfd w n 0) (bif (w.Bl.all fun x=>inI x 0 ((w.Ak.length:Int)-1)) then .nxt (w.Bl.length:Int) else .ret false) :=
   qnX (fun n=>by simp only [qfd,qk (jb _),cond_false]) (fun j hj X hX=>by
    simp only [qfd,qj hj,cond_true,qh7 hj,ja,qcw,qeF (show w.Ak.length≤9223372036854775807 by omega),wS j,qcP]
    exact Ev.okP1 fun _=>hX)
  refine Ev.bind hL1 ?_
  cases allN (fun j=>(inI (at0 w.Bt j) 0 500&&inI (at0 w.Bw j) 0 1000)&&treeB w j) w.Ak.length
  ·exact .done
  ·refine Ev.bind hL2 ?_
   cases (w.Bl.all fun x=>inI x 0 ((w.Ak.length:Int)-1))<;>exact .done
instance:Inhabited Tplace:=⟨⟨0,0,0,false⟩⟩
instance:Inhabited Tl05Place:=⟨⟨0,0,0,false⟩⟩
def toSp (p:Tplace):Tl05Place:=⟨p.instance_,p.pin,p.net,p.drives⟩
def plX (i:Nat) (x:qn) (j:Nat):List Tplace:=(List.range j).map fun (k:Nat)=>⟨(i:Int),(k:Int),at0 x.Am k,decide (k+1=x.Am.length)⟩
def plI (d:qd) (j:Nat):List Tplace:=(List.range j).flatMap fun (i:Nat)=>plX i (gt d.Aa i) (gt d.Aa i).Am.length
def plP (d:qd) (j:Nat):List Tplace:=(List.range j).map fun (i:Nat)=>⟨-1,(i:Int),(gt d.Aj i).Bx,(gt d.Aj i).Bv==1⟩
def places (d:qd):List Tplace:=plI d d.Aa.length++plP d d.Aj.length
theorem qsK {i:Nat} {x:qn} {j:Nat}:plX i x (j+1)=plX i x j++[⟨(i:Int),(j:Int),at0 x.Am j,decide (j+1=x.Am.length)⟩]:=by
 unfold plX;rw [List.range_succ,jN];rfl
theorem ql9 {d:qd} {j:Nat}:plI d (j+1)=plI d j++plX j (gt d.Aa j) (gt d.Aa j).Am.length:=by
 unfold plI;rw [List.range_succ,List.flatMap_append];simp
theorem qr6 {d:qd} {j:Nat}:plP d (j+1)=plP d j++[⟨-1,(j:Int),(gt d.Aj j).Bx,(gt d.Aj j).Bv==1⟩]:=by
 unfold plP;rw [List.range_succ,jN];rfl
theorem qpt {i:Nat} {x:qn} {j:Nat}:(plX i x j).length=j:=by simp [plX]
theorem qpp {d:qd} {j:Nat}:(plP d j).length=j:=by simp [plP]
structure smallD (d:qd):Prop where
 ni:d.Aa.length≤14
 nn:d.Am.length≤30
 np:d.Aj.length≤8
 nx:∀ i,i<d.Aa.length→2≤(gt d.Aa i).Am.length∧(gt d.Aa i).Am.length≤5
theorem qaa {l:qp} {d:qd} (h:designB l d=true):smallD d:=by
 unfold designB hasNamesB libB at h
 simp only [jc,decide_eq_true_eq] at h
 obtain ⟨⟨⟨hc,_⟩,⟨h1,h2,h3⟩,_⟩,hI,_⟩:=h
 refine ⟨h1,h2,h3,fun i hi=>?_⟩
 rw [qhT,qak] at hI hc
 have:=hI i hi
 unfold instB at this
 simp only [jc,qaX,beq_iff_eq] at this
 have h5:=qgo (qik (hc (gt d.Aa i).Bs.toNat (by omega)))
 omega
theorem qnw {d:qd} (h:smallD d) {j:Nat} (hj:j≤d.Aa.length):(plI d j).length≤5*j:=by
 induction j with
 | zero=>exact jb _
 | succ j ih =>
  rw [ql9,je,qpt]
  have:=ih (by omega)
  have:=h.nx j (by omega)
  omega
theorem qbl {d:qd} (h:smallD d):(places d).length≤78:=by
 unfold places
 rw [je,qpp]
 have:=qnw h (jb _)
 have:=h.ni
 have:=h.np
 omega
theorem qmM {d:qd} (h:smallD d):Ev (fun n=>qb6 n d) (places d):=by
 have h1:=h.ni
 have h2:=h.np
 have hL2:∀ i,i<d.Aa.length→∀ pre:List Tplace,pre.length≤100→Ev (fun n=>qbw (i:Int) (gt d.Aa i) n pre 0) (pre++plX i (gt d.Aa i) (gt d.Aa i).Am.length,((gt d.Aa i).Am.length:Int)):=by
  intro i hi pre hp
  have h5:=h.nx i hi
  have:=loopF (Lf:=qbw (i:Int) (gt d.Aa i)) (S:=fun j=>pre++plX i (gt d.Aa i) j) (len:=(gt d.Aa i).Am.length) (fin:=(pre++plX i (gt d.Aa i) (gt d.Aa i).Am.length,((gt d.Aa i).Am.length:Int))) (fun n=>by
    simp only [qbw,qk (jb _),cond_false])
   (fun j hj X hX=>by
    have hc:(pre++plX i (gt d.Aa i) j).length+[(⟨(i:Int),(j:Int),at0 (gt d.Aa i).Am j,decide (j+1=(gt d.Aa i).Am.length)⟩:Tplace)].length≤2147483648:=by
     rw [je,qpt];simp;omega
    simp only [qbw,qj hj,cond_true,qag hj,ja,lastE hj (show (gt d.Aa i).Am.length≤1048576 by omega),qcO hc,jm,←qsK,wS j]
    exact hX)
  simpa [plX] using this
 have hL1:Ev (fun n=>qbv d n ([]:List Tplace) 0) (plI d d.Aa.length,(d.Aa.length:Int)):=by
  refine loopF (Lf:=qbv d) (S:=fun j=>plI d j) (len:=d.Aa.length) (fun n=>?_) (fun j hj X hX=>?_)
  ·simp only [qbv,qk (jb _),cond_false]
  ·simp only [qbv,qj hj,cond_true,qz hj,ja,wS j]
   refine Ev.bind (hL2 j hj _ (by have:=qnw h (Nat.le_of_lt hj);omega)) ?_
   rw [←ql9]
   exact hX
 have hL3:Ev (fun n=>qbx d n (plI d d.Aa.length) 0) (places d,(d.Aj.length:Int)):=by
  have:=loopF (Lf:=qbx d) (S:=fun j=>plI d d.Aa.length++plP d j) (len:=d.Aj.length) (fin:=(places d,(d.Aj.length:Int))) (fun n=>by
    simp only [qbx,qk (jb _),cond_false];rfl)
   (fun j hj X hX=>by
    have hc:(plI d d.Aa.length++plP d j).length+[(⟨-1,(j:Int),(gt d.Aj j).Bx,(gt d.Aj j).Bv==1⟩:Tplace)].length≤2147483648:=by
     rw [je,qpp];have:=qnw h (jb _);simp;omega
    simp only [qbx,qj hj,cond_true,qz hj,ja,qcO hc,jm,←qr6,wS j]
    exact hX)
  simpa [plP] using this
 unfold qb6
 exact Ev.bind hL1 (Ev.bind hL3 .done)
theorem qhn {d:qd} (h:smallD d):Ev (fun n=>qb2 n d) ((places d).map toSp):=by
 have h1:=h.ni
 have h2:=h.np
 have hL2:∀ i,i<d.Aa.length→∀ pre:List Tplace,pre.length≤100→Ev (fun n=>qcn (i:Int) (gt d.Aa i) n (pre.map toSp) 0) ((pre++plX i (gt d.Aa i) (gt d.Aa i).Am.length).map toSp,((gt d.Aa i).Am.length:Int)):=by
  intro i hi pre hp
  have h5:=h.nx i hi
  have:=loopF (Lf:=qcn (i:Int) (gt d.Aa i)) (S:=fun j=>(pre++plX i (gt d.Aa i) j).map toSp) (len:=(gt d.Aa i).Am.length) (fin:=((pre++plX i (gt d.Aa i) (gt d.Aa i).Am.length).map toSp,((gt d.Aa i).Am.length:Int))) (fun n=>by
    simp only [qcn,qk (jb _),cond_false])
   (fun j hj X hX=>by
    have hc:((pre++plX i (gt d.Aa i) j).map toSp).length+[(⟨(i:Int),(j:Int),at0 (gt d.Aa i).Am j,decide (j+1=(gt d.Aa i).Am.length)⟩:Tl05Place)].length≤2147483648:=by
     rw [jv,je,qpt];simp;omega
    simp only [qcn,qj hj,cond_true,qag hj,ja,lastE hj (show (gt d.Aa i).Am.length≤1048576 by omega),qcO hc,wS j]
    rw [qsK,←jm,jN] at hX
    exact hX)
  simpa [plX] using this
 have hL1:Ev (fun n=>qcv d n ([]:List Tl05Place) 0) ((plI d d.Aa.length).map toSp,(d.Aa.length:Int)):=by
  refine loopF (Lf:=qcv d) (S:=fun j=>(plI d j).map toSp) (len:=d.Aa.length) (fun n=>?_) (fun j hj X hX=>?_)
  ·simp only [qcv,qk (jb _),cond_false]
  ·simp only [qcv,qj hj,cond_true,qz hj,ja,wS j]
   refine Ev.bind (hL2 j hj _ (by have:=qnw h (Nat.le_of_lt hj);omega)) ?_
   rw [←ql9]
   exact hX
 have hL3:Ev (fun n=>qcm d n ((plI d d.Aa.length).map toSp) 0) ((places d).map toSp,(d.Aj.length:Int)):=by
  have:=loopF (Lf:=qcm d) (S:=fun j=>(plI d d.Aa.length++plP d j).map toSp) (len:=d.Aj.length) (fin:=((places d).map toSp,(d.Aj.length:Int))) (fun n=>by
    simp only [qcm,qk (jb _),cond_false];rfl)
   (fun j hj X hX=>by
    have hc:((plI d d.Aa.length++plP d j).map toSp).length+[(⟨-1,(j:Int),(gt d.Aj j).Bx,(gt d.Aj j).Bv==1⟩:Tl05Place)].length≤2147483648:=by
     rw [jv,je,qpp];have:=qnw h (jb _);simp;omega
    simp only [qcm,qj hj,cond_true,qz hj,ja,qcO hc,wS j]
    rw [qr6,←jm,jN] at hX
    exact hX)
  simpa [plP] using this
 unfold qb2
 exact Ev.bind hL1 (Ev.bind hL3 .done)
def snkQ (d:qd) (k:Int) (i:Nat):Bool:=((gt (places d) i).net==k)&&!(gt (places d) i).drives
def sinksL (d:qd) (k:Int) (j:Nat):List Int:=((List.range j).filter (snkQ d k)).map fun (i:Nat)=>(i:Int)
def snkN (d:qd) (k:Int):Nat:=cntP (snkQ d k) (places d).length
theorem qiO {d:qd} {k:Int} {j:Nat}:sinksL d k (j+1)=sinksL d k j++(bif snkQ d k j then [(j:Int)] else []):=by
 unfold sinksL
 rw [List.range_succ,List.filter_append,jN]
 congr 1
 cases h:snkQ d k j<;>simp [h]
theorem qij {d:qd} {k:Int} {j:Nat}:(sinksL d k j).length=cntP (snkQ d k) j:=by
 induction j with
 | zero=>rfl
 | succ j ih =>
  rw [qiO,je,ih]
  show _=cntP (snkQ d k) j+_
  congr 1
  cases snkQ d k j<;>rfl
theorem qoy {α β:Type} [Inhabited α] [Inhabited β] {xs:List α} {g:α→β} {j:Nat} (h:j<xs.length):gt (xs.map g) j=g (gt xs j):=by
 rw [qeu (by simpa using h),qeu h];simp
theorem qmG {d:qd} {k:Int} (h:smallD d):Ev (fun n=>qfQ n d k) (sinksL d k (places d).length):=by
 have hl:=qbl h
 have hL:Ev (fun n=>qcg k ((places d).map toSp) n ([]:List Int) 0) (sinksL d k (places d).length,((places d).length:Int)):=by
  refine loopF (Lf:=qcg k ((places d).map toSp)) (S:=fun j=>sinksL d k j) (len:=(places d).length) (fun n=>?_) (fun j hj X hX=>?_)
  ·simp only [qcg,jv,qk (jb _),cond_false]
  ·have hj':j<((places d).map toSp).length:=by simpa using hj
   have hc:(sinksL d k j).length+[(j:Int)].length≤2147483648:=by
    rw [qij]
    have:cntP (snkQ d k) j≤j:=qfo
    simp;omega
   simp only [qcg,qj hj',cond_true,qz hj',qoy hj,ja,wS j]
   rw [show ∀ p:Tplace,(toSp p).net=p.net from fun _=>rfl,show ∀ p:Tplace,(toSp p).drives=p.drives from fun _=>rfl]
   refine Ev.bind (b:=snkQ d k j) (Ev.andP fun _=>.done) ?_
   rw [qiO] at hX
   cases hq:snkQ d k j
   ·rw [hq] at hX
    simp only [cond_false,List.append_nil] at hX ⊢
    exact hX
   ·rw [hq] at hX
    simp only [cond_true,qcO hc,ja] at hX ⊢
    exact hX
 unfold qfQ
 exact Ev.bind (qhn h) (Ev.bind hL .done)
theorem qll {l:qp} {d:qd} (h:designB l d=true) {i:Nat} (hi:i<(places d).length):0≤(gt (places d) i).net∧(gt (places d) i).net<d.Am.length:=by
 unfold designB at h
 simp only [jc] at h
 obtain ⟨_,hI,hP,_⟩:=h
 rw [qhT,qak] at hI hP
 have hm:gt (places d) i ∈ places d:=by rw [qeu hi];exact jo hi
 generalize gt (places d) i=p at hm
 unfold places at hm
 rcases List.mem_append.1 hm with hm|hm
 ·unfold plI at hm
  obtain ⟨i,hi,hm⟩:=List.mem_flatMap.1 hm
  unfold plX at hm
  obtain ⟨k,hk,rfl⟩:=List.mem_map.1 hm
  have:=hI i (List.mem_range.1 hi)
  unfold instB at this
  simp only [jc] at this
  have h3:=this.2.2
  rw [qge (d:=0),qak] at h3
  have h4:=h3 k (List.mem_range.1 hk)
  unfold netB at h4
  rw [qaX] at h4
  show 0≤at0 _ _∧at0 _ _<_
  unfold at0
  omega
 ·unfold plP at hm
  obtain ⟨i,hi,rfl⟩:=List.mem_map.1 hm
  have:=hP i (List.mem_range.1 hi)
  unfold portB netB at this
  simp only [jc,qaX] at this
  show 0≤(gt d.Aj i).Bx∧(gt d.Aj i).Bx<_
  omega
def blockB (b:qf):Bool:=(designB b.Av b.Ab&&((b.Ac.length:Int)==(b.Ab.Am.length:Int)))&&allN (fun j=>wireB (gt b.Ac j) (snkN b.Ab (j:Int))) b.Ac.length
theorem qsX {b:qf} (h:qli b):Ev (fun n=>qhX n b) (blockB b):=by
 have hwl:=h.Ac.len
 unfold qhX blockB
 refine Ev.guardB (Ev.or (qsE h.Av h.Ab) fun _=>.done) fun hb=>?_
 rw [jc,beq_iff_eq] at hb
 obtain ⟨hd,hw⟩:=hb
 have hs:=qaa hd
 have hl:=qbl hs
 have hn:=hs.nn
 rw [qmI (m:=b.Ac.length) (by omega)]
 simp only [ja]
 have hL1:Ev (fun n=>qcK (places b.Ab) n (vecC (fun _=>0) b.Ac.length) 0) (vecC (fun k=>snkN b.Ab (k:Int)) b.Ac.length,((places b.Ab).length:Int)):=by
  refine loopF (Lf:=qcK (places b.Ab)) (S:=fun j=>vecC (fun k=>cntP (snkQ b.Ab (k:Int)) j) b.Ac.length) (len:=(places b.Ab).length) (fun n=>?_) (fun j hj X hX=>?_)
  ·simp only [qcK,qk (jb _),cond_false];rfl
  ·simp only [qcK,qj hj,cond_true,qz hj,ja,wS j]
   obtain ⟨n0,n1⟩:=qll hd hj
   cases h1:(gt (places b.Ab) j).drives
   ·have hc:cntP (snkQ b.Ab (((gt (places b.Ab) j).net.toNat:Nat):Int)) j≤j:=qfo
    obtain ⟨e1,e2⟩:=qkZ (c:=fun k=>cntP (snkQ b.Ab (k:Int)) j) (c':=fun k=>cntP (snkQ b.Ab (k:Int)) (j+1)) (x:=(gt (places b.Ab) j).net) (m:=b.Ac.length) n0 (by omega) (by show cntP _ _<_;omega) (fun k _=>by
     show cntP _ j+(bif snkQ b.Ab (k:Int) j then 1 else 0)=_
     unfold snkQ
     rw [h1,Bool.not_false,Bool.and_true])
    simp only [Bool.not_false,cond_true,ja,e1,e2]
    exact hX
   ·have:vecC (fun k=>cntP (snkQ b.Ab (k:Int)) (j+1)) b.Ac.length=vecC (fun k=>cntP (snkQ b.Ab (k:Int)) j) b.Ac.length:=by
     refine qjJ (fun k _=>?_)
     show cntP _ j+(bif snkQ b.Ab (k:Int) j then 1 else 0)=_
     unfold snkQ
     rw [h1,jX,Bool.and_false];rfl
    rw [this] at hX
    exact hX
 have hL2:Ev (fun n=>qej b (vecC (fun k=>snkN b.Ab (k:Int)) b.Ac.length) n 0) (bif allN (fun j=>wireB (gt b.Ac j) (snkN b.Ab (j:Int))) b.Ac.length then .nxt (b.Ac.length:Int) else .ret false):=by
  refine qd1 ?_ (fun j hj X hX=>Ev.succ ?_)
  ·exact Ev.succ (by simp only [qej,qk (jb _),cond_false];exact .done)
  ·simp only [qej,qj hj,cond_true,qz hj,qjK hj,ja,wS j]
   exact Ev.chk1 (quD (qml h.Ac hj)) fun _=>hX
 refine Ev.bind (qmM hs) (Ev.bind hL1 (Ev.bind hL2 ?_))
 cases allN (fun j=>wireB (gt b.Ac j) (snkN b.Ab (j:Int))) b.Ac.length<;>exact .done
theorem qoN {b:qf} (h:qli b):Ev (fun n=>qgv n b) (blockB b):=by
 have hwl:=h.Ac.len
 unfold qgv blockB
 refine Ev.guardB (Ev.or (qri h.Av h.Ab) fun _=>.done) fun hb=>?_
 rw [jc] at hb
 have hs:=qaa hb.1
 have hL:Ev (fun n=>qel b n 0) (bif allN (fun j=>wireB (gt b.Ac j) (snkN b.Ab (j:Int))) b.Ac.length then .nxt (b.Ac.length:Int) else .ret false):=by
  refine qd1 ?_ (fun j hj X hX=>Ev.succ ?_)
  ·exact Ev.succ (by simp only [qel,qk (jb _),cond_false];exact .done)
  ·simp only [qel,qj hj,cond_true,qz hj,ja,wS j]
   refine Ev.bind (qmG hs) ?_
   rw [qij]
   exact Ev.chk1 (qta (qml h.Ac hj)) fun _=>hX
 refine Ev.bind hL ?_
 cases allN (fun j=>wireB (gt b.Ac j) (snkN b.Ab (j:Int))) b.Ac.length<;>exact .done
end Go.Fw


namespace Go.Fw
open Go
set_option maxRecDepth 100000
def off (d:qd) (i:Nat):Nat:=(plI d i).length
def place1 (d:qd) (i k:Nat):Tplace:=⟨(i:Int),(k:Int),at0 (gt d.Aa i).Am k,decide (k+1=(gt d.Aa i).Am.length)⟩
def place2 (d:qd) (i:Nat):Tplace:=⟨-1,(i:Int),(gt d.Aj i).Bx,(gt d.Aj i).Bv==1⟩
theorem qkb {d:qd} {i:Nat}:off d (i+1)=off d i+(gt d.Aa i).Am.length:=by
 unfold off;rw [ql9,je,qpt]
theorem qtf {d:qd} {i j:Nat} (h:i≤j):off d i≤off d j:=by
 induction j with
 | zero =>
  obtain rfl:i=0:=by omega
  exact jb _
 | succ j ih =>
  rcases Nat.lt_or_eq_of_le h with h|rfl
  ·rw [qkb];have:=ih (by omega);omega
  ·exact jb _
theorem qgn {d:qd}:(places d).length=off d d.Aa.length+d.Aj.length:=by
 unfold places off;rw [je,qpp]
theorem qxv {d:qd} {n i k:Nat} (hi:i<n) (hk:k<(gt d.Aa i).Am.length):off d i+k<off d n∧gt (plI d n) (off d i+k)=place1 d i k:=by
 induction n with
 | zero=>omega
 | succ n ih =>
  rw [ql9,qlk]
  rcases Nat.lt_succ_iff_lt_or_eq.1 hi with h|rfl
  ·obtain ⟨h1,h2⟩:=ih h
   refine ⟨by rw [qkb];omega,?_⟩
   rw [if_pos (show off d i+k<(plI d n).length from h1),h2]
  ·refine ⟨by rw [qkb];omega,?_⟩
   rw [if_neg (by unfold off;omega),show off d i+k-(plI d i).length=k by unfold off;omega]
   exact qp4 hk
theorem qjD {d:qd} {i k:Nat} (hi:i<d.Aa.length) (hk:k<(gt d.Aa i).Am.length):off d i+k<(places d).length∧gt (places d) (off d i+k)=place1 d i k:=by
 obtain ⟨h1,h2⟩:=qxv hi hk
 refine ⟨by rw [qgn];omega,?_⟩
 unfold places
 rw [qlk,if_pos (show off d i+k<(plI d d.Aa.length).length from h1),h2]
theorem qqJ {d:qd} {i:Nat} (hi:i<d.Aj.length):off d d.Aa.length+i<(places d).length∧gt (places d) (off d d.Aa.length+i)=place2 d i:=by
 refine ⟨by rw [qgn];omega,?_⟩
 unfold places
 rw [qlk,if_neg (by unfold off;omega),show off d d.Aa.length+i-(plI d d.Aa.length).length=i by unfold off;omega]
 exact qp4 hi
theorem quI {d:qd} {n j:Nat} (hj:j<off d n):∃ i k,i<n∧k<(gt d.Aa i).Am.length∧j=off d i+k:=by
 induction n with
 | zero=>exact absurd hj (Nat.not_lt_zero _)
 | succ n ih =>
  by_cases h:j<off d n
  ·obtain ⟨i,k,h1,h2,h3⟩:=ih h
   exact ⟨i,k,by omega,h2,h3⟩
  ·rw [qkb] at hj
   exact ⟨n,j-off d n,by omega,by omega,by omega⟩
theorem qkk {d:qd} {j:Nat} (hj:j<(places d).length) :
  (∃ i k,i<d.Aa.length∧k<(gt d.Aa i).Am.length∧j=off d i+k∧gt (places d) j=place1 d i k) ∨
  (∃ i,i<d.Aj.length∧j=off d d.Aa.length+i∧gt (places d) j=place2 d i):=by
 rw [qgn] at hj
 by_cases h:j<off d d.Aa.length
 ·obtain ⟨i,k,h1,h2,rfl⟩:=quI h
  exact .inl ⟨i,k,h1,h2,rfl,(qjD h1 h2).2⟩
 ·refine .inr ⟨j-off d d.Aa.length,by omega,by omega,?_⟩
  have:=(qqJ (d:=d) (i:=j-off d d.Aa.length) (by omega)).2
  rwa [show off d d.Aa.length+(j-off d d.Aa.length)=j by omega] at this
def drvQ (d:qd) (k:Int) (j:Nat):Bool:=((gt (places d) j).net==k)&&(gt (places d) j).drives
theorem qsl {q:Nat→Bool} {m n:Nat}:cntP q (m+n)=cntP q m+cntP (fun j=>q (m+j)) n:=by
 induction n with
 | zero=>rfl
 | succ n ih =>
  show cntP q (m+n)+(bif q (m+n) then 1 else 0)=cntP q m+(cntP (fun j=>q (m+j)) n+(bif q (m+n) then 1 else 0))
  rw [ih];omega
theorem qus {q:Nat→Bool} {n:Nat} {b:Bool} (h:1≤n) (h1:∀ j,j+1<n→q j=false) (h2:q (n-1)=b):cntP q n=bif b then 1 else 0:=by
 obtain ⟨m,rfl⟩:∃ m,n=m+1:=⟨n-1,by omega⟩
 show cntP q m+(bif q m then 1 else 0)=_
 rw [qmS.2 (fun j hj=>h1 j (by omega)),show m=m+1-1 by omega,h2,jV]
theorem qs5 {d:qd} {k:Nat} (hs:smallD d):cntP (drvQ d (k:Int)) (places d).length=drvI d k d.Aa.length+drvP d k d.Aj.length:=by
 rw [qgn,qsl]
 congr 1
 ·have:∀ n,n≤d.Aa.length→cntP (drvQ d (k:Int)) (off d n)=drvI d k n:=by
   intro n
   induction n with
   | zero=>intro _;rfl
   | succ n ih =>
    intro hn
    rw [qkb,qsl,ih (by omega),qow]
    congr 1
    have h2:=(hs.nx n (by omega)).1
    refine qus (by omega) (fun j hj=>?_) ?_
    ·show drvQ d _ (off d n+j)=false
     unfold drvQ
     rw [(qjD (by omega) (by omega)).2]
     unfold place1
     simp;omega
    ·show drvQ d _ (off d n+_)=_
     unfold drvQ
     rw [(qjD (by omega) (by omega)).2]
     unfold place1 lastN
     simp;omega
  exact this _ (jb _)
 ·refine qpG (fun j hj=>?_)
  show drvQ d _ (off d _+j)=_
  unfold drvQ
  rw [(qqJ hj).2]
  unfold place2
  exact Bool.and_comm _ _
theorem qtF {l:qp} {d:qd} (h:designB l d=true) {k:Nat} (hk:k<d.Am.length):cntP (drvQ d (k:Int)) (places d).length=1:=by
 rw [qs5 (qaa h)]
 unfold designB drvB at h
 simp only [jc] at h
 have:=qak.1 h.2.2.2 k hk
 rw [beq_iff_eq] at this
 omega
theorem qso {l:qp} {d:qd} (h:designB l d=true) {i j:Nat} (hi:i<(places d).length) (hj:j<(places d).length) (he:(gt (places d) i).net=(gt (places d) j).net) (h1:(gt (places d) i).drives=true) (h2:(gt (places d) j).drives=true):i=j:=by
 obtain ⟨n0,n1⟩:=qll h hi
 have e:=qfU n0
 have:=qtF h (k:=(gt (places d) i).net.toNat) (by omega)
 refine qsh (Nat.le_of_eq this) hi hj ?_ ?_
 ·unfold drvQ;rw [←e,h1];simp
 ·unfold drvQ;rw [←e,h2,he];simp
theorem qxn {l:qp} {d:qd} (h:designB l d=true) {k:Int} (h0:0≤k) (h1:k<d.Am.length):∃ j,j<(places d).length∧(gt (places d) j).net=k∧(gt (places d) j).drives=true:=by
 have e:=qfU h0
 have:=qtF h (k:=k.toNat) (by omega)
 have hp:decide (0<cntP (drvQ d ((k.toNat:Nat):Int)) (places d).length)=true:=by rw [this];rfl
 rw [qr2,jE,qlK] at hp
 obtain ⟨j,hj,hq⟩:=hp
 rw [Bool.not_eq_false',←e] at hq
 unfold drvQ at hq
 simp only [jc,beq_iff_eq] at hq
 exact ⟨j,hj,hq.1,hq.2⟩
def cellAt (b:qf) (i:Int):qB:=gt b.Av.Aq (gt b.Ab.Aa i.toNat).Bs.toNat
theorem qgL {l:qp} {d:qd} (h:designB l d=true) {i:Nat} (hi:i<d.Aa.length) :
  (0≤(gt d.Aa i).Bs∧(gt d.Aa i).Bs<l.Aq.length)∧(gt d.Aa i).Am.length=(gt l.Aq (gt d.Aa i).Bs.toNat).Bc.length∧cellB (gt l.Aq (gt d.Aa i).Bs.toNat)=true:=by
 unfold designB libB at h
 simp only [jc] at h
 obtain ⟨⟨⟨hc,_⟩,_⟩,hI,_⟩:=h
 rw [qhT,qak] at hI hc
 have:=hI i hi
 unfold instB at this
 simp only [jc,qaX,beq_iff_eq] at this
 exact ⟨⟨this.1.1,by omega⟩,by omega,hc _ (by omega)⟩
theorem qmp {c:qB} (h:cellB c=true) {j:Nat} (hj:j<c.Ar.length):(1≤(gt c.Ar j).Be∧(gt c.Ar j).Be≤5)∧(0≤(gt c.Ar j).Bk∧(gt c.Ar j).Bk<(c.Bc.length:Int)-1)∧(0≤(gt c.Ar j).To∧(gt c.Ar j).To≤(c.Bc.length:Int)-1)∧arcS c.Bc (gt c.Ar j)=true:=by
 unfold cellB at h
 simp only [jc] at h
 obtain ⟨_,hp,⟨ha,_⟩,_,_,hk⟩:=h
 have:=qak.1 ha j hj
 rw [jc,qvj hp (qqP hk)] at this
 have h1:=this.1
 refine ⟨qq4 h1,?_⟩
 have h2:=h1
 unfold arcS at h2
 simp only [jc,qaX] at h2
 refine ⟨⟨h2.1.1.1,by omega⟩,h2.1.2,h1⟩
theorem qnp {c:qB} (h:cellB c=true):c.Ar.length≤8:=by
 unfold cellB at h
 simp only [jc,decide_eq_true_eq] at h
 exact h.2.2.1.2
theorem qat {b:qf} (h:blockB b=true):designB b.Av b.Ab=true:=by
 unfold blockB at h;simp only [jc] at h;exact h.1.1
end Go.Fw
