/- By a program of mine (gen.py): for each function a plain function and the proof that the code computes it. -/
import Derived.Test.YtflinekphmgbeaaGreatDoorA2
import Derived.Test.YtflinekphmgbeaaGreatDoorFw32
open Option renaming bind_some → ja
open Nat renaming le_refl → jb, mul_le_mul_right → jm, le_of_ble_eq_true → jq, lt_of_lt_of_le → js, succ_mul → jF, zero_add → jU
open Bool renaming and_eq_true → jc, eq_iff_iff → jh, true_and → jw, not_eq_true' → jE, not_true → jW
open Go.Result renaming andThen_ok → jd
open List renaming length_append → je, getElem?_eq_getElem → jf, mem_cons_of_mem → jk, length_singleton → jn, getElem_mem → jo, append_assoc → jp, getElem?_append_left → jr, mem_cons_self → jt, take_succ_eq_append_getElem → ju, length_map → jv, getElem?_take → jx, getElem?_append_right → jy, getD_eq_getElem?_getD → jz, getElem?_toArray → jA, take_length → jB, eq_nil_of_length_eq_zero → jC, drop_eq_getElem_cons → jD, not_mem_nil → jH, length_replicate → jI, size_toArray → jJ, all_eq_true → jM, length_take → jN, getElem_of_mem → jO, map_append → jP, mem_cons → jR, ext_getElem → jT
open Go.Sem renaming run_bind → jg, run_pure → ji
open Int renaming toNat_natCast → jj, tdiv_eq_ediv_of_nonneg → jG, mul_nonneg → jL, mul_assoc → jQ, mul_le_mul → jS, le_refl → jV
open Array renaming getElem?_append_left → jK

namespace Go.Fw
open Go Go.Proofs
open Go.RowKit (Below)
set_option maxRecDepth 100000
set_option maxHeartbeats 1600000
variable {n:Nat} {w:World} {cs1 cs2 cs3 cs4 cs5 cs6 cs7 cs8 cs9:List Value}
def qdi (a_0:qB) (i1:Int) (y1:qP):Nat→Int→Option (Flow Bool Int)
 | 0,_=>none
 | n+1,i2 =>
  bif decide (i2<i1) then
   (idx a_0.Au i2).bind fun y2 =>
   bif (y2.Bf==y1.Bf) then
    (idx a_0.Au i2).bind fun y3 =>
    bif (y3.Bk==y1.Bk) then
     (idx a_0.Au i2).bind fun y4 =>
     bif (y4.To==y1.To) then some (.ret false) else
     qdi a_0 i1 y1 n (W64 (i2+1))
    else
     qdi a_0 i1 y1 n (W64 (i2+1))
   else
    qdi a_0 i1 y1 n (W64 (i2+1))
  else
   some (.nxt i2)
def qfp (a_0:qB):Nat→Int→Option (Flow Bool Int)
 | 0,_=>none
 | n+1,i3 =>
  bif decide (i3<(a_0.Br.length:Int)) then
   (idx a_0.Br i3).bind fun y5 =>
   (qap n y5 0 1).bind fun r6 =>
   bif (!r6) then some (.ret false) else
   qfp a_0 n (W64 (i3+1))
  else
   some (.nxt i3)
def qfl (a_0:qB):Nat→Int→Option (Flow Bool Int)
 | 0,_=>none
 | n+1,i1 =>
  bif decide (i1<(a_0.Au.length:Int)) then
   (idx a_0.Au i1).bind fun y1 =>
   (qkD n a_0 y1).bind fun r4 =>
   bif (!r4) then some (.ret false) else
   (qdi a_0 i1 y1 n 0).bind fun o=>match o with
   | .ret r=>some (.ret r)
   | .nxt _ =>
    qfl a_0 n (W64 (i1+1))
  else
   some (.nxt i1)
def qkJ (n:Nat) (a_0:qB):Option Bool :=
 (qjA n a_0).bind fun o=>match o with
  | (r2,r3) =>
   (
    bif (!r3) then some true else
    (qfw n a_0.Bb).bind fun r7 =>
    bif (!r7) then some true else
    bif decide ((a_0.Au.length:Int) > 8) then some true else
    (qap n a_0.Ca 0 100000).bind fun r8 =>
    bif (!r8) then some true else
    (qap n a_0.Bu 0 100000).bind fun r9 =>
    some (!r9)).bind fun b1 =>
   bif b1 then some false else
   (qfl a_0 n 0).bind fun o=>match o with
   | .ret r=>some r
   | .nxt _ =>
    (qiP n a_0).bind fun r5 =>
    bif (a_0.Bf==1) then
     (qfp a_0 n 0).bind fun o=>match o with
     | .ret r=>some r
     | .nxt _ =>
      bif (r2==0) then
       (shlS 1 (IntKind.wrap .u64 (W64 ((a_0.Be.length:Int)-1)))).bind fun y6 =>
       some ((a_0.Br.length:Int)==y6)
      else
       some false
    else
     bif (a_0.Bf==2) then
      bif (r2==1) then
       (idx r5 1).bind fun y7 =>
       bif (y7==0) then
        (idx r5 2).bind fun y8 =>
        (idx r5 3).bind fun y9 =>
        bif (!((decide (y8 > 0))==(decide (y9 > 0)))) then some ((a_0.Br.length:Int)==0) else
        some false
       else
        some false
      else
       some false
     else
      bif (a_0.Bf==3) then
       bif (r2==1) then
        (idx r5 1).bind fun y10 =>
        bif decide (y10 > 0) then
         (idx r5 2).bind fun y11 =>
         bif decide (y11 > 0) then
          (idx r5 3).bind fun y12 =>
          bif (y12==0) then some ((a_0.Br.length:Int)==0) else
          some false
         else
          some false
        else
         some false
       else
        some false
      else
       some false
theorem qqD {a_0:qB} (ha1:GoT.R w (old w) a_0 cs1) {r:Bool} (hF:qkJ n a_0=some r):RetV Tryz.prog 237 [GoT.v qB cs1] w r:=by
 obtain ⟨p1,k1,p2,k2,p3,k3,rfl,s1,s2,s3⟩:=qac ha1
 refine zV 182 Tryz.func237 rfl fun h=>zSR (qt h rfl rfl fun w1 bb1 h=>X1 5 0 h rfl ?_)
 obtain ⟨r1,hr1,hF⟩:=qc hF
 obtain ⟨r2,r3⟩:=r1
 refine qa2 (r2,r3) h (cB 260 rfl) (qpf (h.old ha1) hr1) rfl rfl rfl rfl fun w2 S1 us1 hv1 hr2=>?_
 obtain ⟨S2,us2,rfl,hv2,hr3⟩:=hv1.consI hr2
 obtain ⟨rfl,h⟩:=hv2.lastB hr3
 refine X0 8 rfl ?_
 obtain ⟨KF1,hKF1,o4,hF,hK4⟩:=bindE hF
 refine qbm (fun e w'=>∃ (b1:Bool),KF1 b1=some r∧e=[(1,.pointer (some ⟨bb1,0,none⟩)),(3,.int .i64 r2),(40,.bool b1)]∧SH w w' [Ch.box bb1 (qdQ a_0 p1 p2 p3 k1 k2 k3) 168]) ?_ ?_
 ·refine X0 4 rfl (qi (t:=17) hF rfl ?_ ?_)<;>intro hF
  ·refine X0 24 rfl ?_
   obtain rfl:=qb hF
   exact rG ⟨_,hK4,rfl,h⟩ rfl
  refine X1 5 0 h rfl (zcB h hF qhp rfl fun r7 w18 h hF=>X0 4 rfl (qi (t:=23) hF rfl ?_ ?_))<;>intro hF
  ·refine X0 18 rfl ?_
   obtain rfl:=qb hF
   exact rG ⟨_,hK4,rfl,h⟩ rfl
  refine X1 10 0 h rfl (qi (t:=29) hF rfl ?_ ?_)<;>intro hF
  ·refine X0 12 rfl ?_
   obtain rfl:=qb hF
   exact rG ⟨_,hK4,rfl,h⟩ rfl
  refine X1 5 0 h rfl (zcB h hF qae rfl fun r8 w19 h hF=>X0 4 rfl (qi (t:=35) hF rfl ?_ ?_))<;>intro hF
  ·refine X0 6 rfl ?_
   obtain rfl:=qb hF
   exact rG ⟨_,hK4,rfl,h⟩ rfl
  refine X1 5 0 h rfl (zcB h hF qae rfl fun r9 w20 h hF=>X0 4 rfl ?_)
  obtain rfl:=qb hF
  exact rG ⟨_,hK4,rfl,h⟩ rfl
 rintro e4 w21 ⟨b1,hF,rfl,h⟩
 subst hKF1
 refine qh rfl hF ?_ ?_<;>intro hF
 ·exact X0 4 rfl (rb h hF rfl)
 refine X0 6 rfl ?_
 obtain ⟨o1,hF,hK1⟩:=qc hF
 refine ql (rL (fun m e w'=>∃ (i1:Int),qfl a_0 m i1=some o1∧e=[(1,.pointer (some ⟨bb1,0,none⟩)),(3,.int .i64 r2),(5,.int .i64 i1)]∧SH w w' [Ch.box bb1 (qdQ a_0 p1 p2 p3 k1 k2 k3) 168]) n ⟨_,hF,rfl,h⟩ rfl ?_)
 rintro m1 e1 w3 ⟨i1,hF,rfl,h⟩
 rcases m1 with _|m1
 ·cases hF
 refine X1 9 0 h rfl (qh rfl hF ?_ ?_)<;>intro hF
 ·refine X1 8 0 h rfl ?_
  obtain ⟨y1,hy1,hF,he1,b2,_,q1,cs2,hp1,hq1,hr5,hc3⟩:=s2.ix hF
  obtain ⟨p4,k4,p5,k5,rfl,s4,s5⟩:=qag hr5
  refine zxe hp1 hq1 he1 rfl (zc 0 (hc3.below h.below) rfl (qm qa h rfl rfl rfl fun w4 bb2 h=>zs 0 h rfl fun w5 h=>X2 6 1 0 h rfl (zcB h hF (qqs (h.old ha1) (qfo y1 (h.oldS s4) (h.oldS s5))) rfl fun r4 w6 h hF=>X0 2 rfl (qh rfl hF ?_ ?_))))<;>intro hF
  ·refine X0 4 rfl ?_
   obtain rfl:=qb hF;replace hF:=hK1
   exact rb h hF rfl
  refine X0 5 rfl ?_
  obtain ⟨o2,hF,hK2⟩:=qc hF
  refine ql (rL (fun m e w'=>∃ (i2:Int),qdi a_0 i1 y1 m i2=some o2∧e=[(1,.pointer (some ⟨bb1,0,none⟩)),(3,.int .i64 r2),(5,.int .i64 i1),(6,.pointer (some ⟨bb2,0,none⟩)),(7,.int .i64 i2)]∧SH w w' [Ch.box bb2 (qgo y1 p4 p5 k4 k5) 173,Ch.box bb1 (qdQ a_0 p1 p2 p3 k1 k2 k3) 168]) m1 ⟨_,hF,rfl,h⟩ rfl ?_)
  rintro m2 e2 w7 ⟨i2,hF,rfl,h⟩
  rcases m2 with _|m2
  ·cases hF
  refine X0 7 rfl (qh rfl hF ?_ ?_)<;>intro hF
  ·refine X0 4 rfl (rD (Y1 2 1 h rfl ?_))
   refine zd1 rfl ?_
   obtain ⟨y2,hy2,hF,he2,b3,_,q2,cs3,hp2,hq2,hr7,hc6⟩:=s2.ix hF
   obtain ⟨p6,k6,p7,k7,rfl,s6,s7⟩:=qag hr7
   refine zdxe hp2 hq2 he2 rfl (zd1 rfl (zdc 0 (hc6.below h.below) rfl (Y1 2 0 h rfl ?_)))
   refine zd2 rfl (qaJ (t:=71) hF rfl ?_ ?_)<;>intro hF
   ·refine Y1 4 1 h rfl ?_
    refine Y0 3 rfl ?_
    obtain ⟨y3,hy3,hF,he3,b4,_,q3,cs4,hp3,hq3,hr8,hc7⟩:=s2.ix hF
    obtain ⟨p8,k8,p9,k9,rfl,s8,s9⟩:=qag hr8
    refine zdxe hp3 hq3 he3 rfl (Y0 3 rfl (zdc 1 (hc7.below h.below) rfl (Y1 4 0 h rfl ?_)))
    refine Y0 4 rfl (qaJ (t:=82) hF rfl ?_ ?_)<;>intro hF
    ·refine Y1 4 1 h rfl ?_
     refine Y0 3 rfl ?_
     obtain ⟨y4,hy4,hF,he4,b5,_,q4,cs5,hp4,hq4,hr9,hc8⟩:=s2.ix hF
     obtain ⟨p10,k10,p11,k11,rfl,s10,s11⟩:=qag hr9
     refine zdxe hp4 hq4 he4 rfl (Y0 3 rfl (zdc 2 (hc8.below h.below) rfl (Y1 4 0 h rfl ?_)))
     refine Y0 3 rfl (dN h fun w8 h=>qh rfl hF ?_ ?_)<;>intro hF
     ·refine X0 4 rfl ?_
      obtain rfl:=qb hF;replace hF:=hK2
      obtain rfl:=qb hF;replace hF:=hK1
      exact rb h hF rfl
     exact X0 7 rfl (rK ⟨_,hF,rfl,h⟩ rfl)
    exact Y0 10 rfl (dN h fun w9 h=>qbS rfl rfl (X0 7 rfl (rK ⟨_,hF,rfl,h⟩ rfl)))
   exact Y0 21 rfl (dN h fun w10 h=>qbS rfl rfl (X0 7 rfl (rK ⟨_,hF,rfl,h⟩ rfl)))
  refine qu rfl ?_
  obtain rfl:=qb hF;replace hF:=hK2
  refine X0 6 rfl ?_
  replace h:=h.pick [1] rfl
  exact rK ⟨_,hF,rfl,h⟩ rfl
 refine qu rfl ?_
 obtain rfl:=qb hF;replace hF:=hK1
 refine X1 3 0 h rfl (zcL h hF (qoI (h.old ha1)) rfl fun r5 w11 S4 p12 k12 h hF=>X1 14 1 h rfl (qh rfl hF ?_ ?_))<;>intro hF
 ·refine X0 5 rfl ?_
  obtain ⟨o3,hF,hK3⟩:=qc hF
  refine ql ?_
  replace h:=h.pick [1] rfl
  refine rL (fun m e w'=>∃ (i3:Int),qfp a_0 m i3=some o3∧e=[(1,.pointer (some ⟨bb1,0,none⟩)),(3,.int .i64 r2),(9,.int .i64 i3)]∧SH w w' [Ch.box bb1 (qdQ a_0 p1 p2 p3 k1 k2 k3) 168]) n ⟨_,hF,rfl,h⟩ rfl ?_
  rintro m3 e3 w12 ⟨i3,hF,rfl,h⟩
  rcases m3 with _|m3
  ·cases hF
  refine X1 9 0 h rfl (qh rfl hF ?_ ?_)<;>intro hF
  ·refine X1 8 0 h rfl ?_
   obtain ⟨y5,hy5,hF,he5,b6,_,q5,cs6,hp5,hq5,rfl,hc12⟩:=s3.ix hF
   refine zxe hp5 hq5 he5 rfl (zc 0 (hc12.below h.below) rfl (zcB h hF qae rfl fun r6 w13 h hF=>X0 2 rfl (qh rfl hF ?_ ?_)))<;>intro hF
   ·refine X0 4 rfl ?_
    obtain rfl:=qb hF;replace hF:=hK3
    exact rb h hF rfl
   exact X0 7 rfl (rK ⟨_,hF,rfl,h⟩ rfl)
  refine qu rfl ?_
  obtain rfl:=qb hF;replace hF:=hK3
  refine X0 5 rfl (qi (t:=115) hF rfl ?_ ?_)<;>intro hF
  ·refine X2 17 0 0 h rfl ?_
   obtain ⟨y6,hx1,hF⟩:=qc hF
   obtain ⟨g1,hx1⟩:=qrk hx1
   refine r_v (qxQ g1 rfl rfl) rfl ?_
   rw [hx1]
   exact X0 5 rfl (rb h hF rfl)
  exact X0 13 rfl (rb h hF rfl)
 refine X0 5 rfl (qh rfl hF ?_ ?_)<;>intro hF
 ·refine qcv (rD (zd3 rfl (qaJ (t:=131) hF rfl ?_ ?_)))<;>intro hF
  ·refine Y0 3 rfl ?_
   obtain ⟨y7,hy6,hF,he6,b7,_,q6,cs7,hp6,hq6,rfl,hc15⟩:=(h.sl 0 rfl).1.ix hF
   refine zdx hp6 hq6 ⟨he6.1,qU he6.2.1 (h.sl 0 rfl).2⟩ rfl (Y0 1 rfl (zdc 0 hc15 rfl (Y0 4 rfl (qaJ (t:=137) hF rfl ?_ ?_))))<;>intro hF
   ·refine Y0 3 rfl ?_
    obtain ⟨y8,hy7,hF,he7,b8,_,q7,cs8,hp7,hq7,rfl,hc16⟩:=(h.sl 0 rfl).1.ix hF
    refine zdx hp7 hq7 ⟨he7.1,qU he7.2.1 (h.sl 0 rfl).2⟩ rfl (Y0 1 rfl (zdc 0 hc16 rfl (Y0 5 rfl ?_)))
    obtain ⟨y9,hy8,hF,he8,b9,_,q8,cs9,hp8,hq8,rfl,hc17⟩:=(h.sl 0 rfl).1.ix hF
    refine zdx hp8 hq8 ⟨he8.1,qU he8.2.1 (h.sl 0 rfl).2⟩ rfl (Y0 1 rfl (zdc 0 hc17 rfl (Y0 6 rfl (qaJ (t:=148) hF rfl ?_ ?_))))<;>intro hF
    ·refine Y1 4 1 h rfl ?_
     exact Y0 6 rfl (dN h fun w14 h=>rb h hF rfl)
    exact Y0 6 rfl (dN h fun w15 h=>rb h hF rfl)
   exact Y0 17 rfl (dN h fun w16 h=>rb h hF rfl)
  exact Y0 23 rfl (dN h fun w17 h=>rb h hF rfl)
 refine X0 5 rfl (qh rfl hF ?_ ?_)<;>intro hF
 ·refine X0 5 rfl (qi (t:=158) hF rfl ?_ ?_)<;>intro hF
  ·refine X0 3 rfl ?_
   obtain ⟨y10,hy9,hF,he9,b10,_,q9,cs10,hp9,hq9,rfl,hc19⟩:=(h.sl 0 rfl).1.ix hF
   refine zx hp9 hq9 ⟨he9.1,qU he9.2.1 (h.sl 0 rfl).2⟩ rfl (X0 1 rfl (zc 0 hc19 rfl (X0 4 rfl (qi (t:=164) hF rfl ?_ ?_))))<;>intro hF
   ·refine X0 3 rfl ?_
    obtain ⟨y11,hy10,hF,he10,b11,_,q10,cs11,hp10,hq10,rfl,hc20⟩:=(h.sl 0 rfl).1.ix hF
    refine zx hp10 hq10 ⟨he10.1,qU he10.2.1 (h.sl 0 rfl).2⟩ rfl (X0 1 rfl (zc 0 hc20 rfl (X0 4 rfl (qi (t:=170) hF rfl ?_ ?_))))<;>intro hF
    ·refine X0 3 rfl ?_
     obtain ⟨y12,hy11,hF,he11,b12,_,q11,cs12,hp11,hq11,rfl,hc21⟩:=(h.sl 0 rfl).1.ix hF
     refine zx hp11 hq11 ⟨he11.1,qU he11.2.1 (h.sl 0 rfl).2⟩ rfl (X0 1 rfl (zc 0 hc21 rfl (X0 4 rfl (qi (t:=176) hF rfl ?_ ?_))))<;>intro hF
     ·exact X1 11 1 h rfl (rb h hF rfl)
     exact X0 7 rfl (rb h hF rfl)
    exact X0 13 rfl (rb h hF rfl)
   exact X0 19 rfl (rb h hF rfl)
  exact X0 25 rfl (rb h hF rfl)
 exact X0 6 rfl (rb h hF rfl)
def qdr (l:qp) (i1:Int):Nat→Int→Option (Flow Bool Int)
 | 0,_=>none
 | n+1,i2 =>
  bif decide (i2<i1) then
   (idx l.Aq i2).bind fun y2 =>
   (idx l.Aq i1).bind fun y3 =>
   bif (y2.Bb.toList==y3.Bb.toList) then some (.ret false) else
   qdr l i1 n (W64 (i2+1))
  else
   some (.nxt i2)
def qdo (l:qp):Nat→Int→Option (Flow Bool Int)
 | 0,_=>none
 | n+1,i1 =>
  bif decide (i1<(l.Aq.length:Int)) then
   (idx l.Aq i1).bind fun y1 =>
   (qkJ n y1).bind fun r1 =>
   bif (!r1) then some (.ret false) else
   (qdr l i1 n 0).bind fun o=>match o with
   | .ret r=>some (.ret r)
   | .nxt _ =>
    qdo l n (W64 (i1+1))
  else
   some (.nxt i1)
def qh1 (n:Nat) (l:qp):Option Bool :=
 (qdo l n 0).bind fun o=>match o with
 | .ret r=>some r
 | .nxt _ =>
  some (decide ((l.Aq.length:Int)≤8))
theorem qnZ {l:qp} (ha1:GoT.R w (old w) l cs1) {r:Bool} (hF:qh1 n l=some r):RetV Tryz.prog 206 [GoT.v qp cs1] w r:=by
 obtain ⟨p1,k1,rfl,s1⟩:=qbw ha1
 refine zV 41 Tryz.func206 rfl fun h=>zSR (qt h rfl rfl fun w1 bb1 h=>X0 7 rfl ?_)
 obtain ⟨o1,hF,hK1⟩:=qc hF
 refine ql (rL (fun m e w'=>∃ (i1:Int),qdo l m i1=some o1∧e=[(1,.pointer (some ⟨bb1,0,none⟩)),(3,.int .i64 i1)]∧SH w w' [Ch.box bb1 [.slice p1 l.Aq.length k1] 44]) n ⟨_,hF,rfl,h⟩ rfl ?_)
 rintro m1 e1 w2 ⟨i1,hF,rfl,h⟩
 rcases m1 with _|m1
 ·cases hF
 refine X1 9 0 h rfl (qh rfl hF ?_ ?_)<;>intro hF
 ·refine X1 9 0 h rfl ?_
  obtain ⟨y1,hy1,hF,he1,b1,_,q1,cs2,hp1,hq1,hr1,hc2⟩:=s1.ix hF
  obtain ⟨p2,k2,p3,k3,p4,k4,rfl,s2,s3,s4⟩:=qac hr1
  refine zxe hp1 hq1 he1 rfl (zc 0 (hc2.below h.below) rfl (zcB h hF (qqD (qjV y1 (h.oldS s2) (h.oldS s3) (h.oldS s4))) rfl fun r1 w3 h hF=>X0 2 rfl (qh rfl hF ?_ ?_)))<;>intro hF
  ·refine X0 4 rfl ?_
   obtain rfl:=qb hF;replace hF:=hK1
   exact rb h hF rfl
  refine X0 5 rfl ?_
  obtain ⟨o2,hF,hK2⟩:=qc hF
  refine ql (rL (fun m e w'=>∃ (i2:Int),qdr l i1 m i2=some o2∧e=[(1,.pointer (some ⟨bb1,0,none⟩)),(3,.int .i64 i1),(4,.int .i64 i2)]∧SH w w' [Ch.box bb1 [.slice p1 l.Aq.length k1] 44]) m1 ⟨_,hF,rfl,h⟩ rfl ?_)
  rintro m2 e2 w4 ⟨i2,hF,rfl,h⟩
  rcases m2 with _|m2
  ·cases hF
  refine X0 7 rfl (qh rfl hF ?_ ?_)<;>intro hF
  ·refine X0 4 rfl (rD (Y1 2 0 h rfl ?_))
   refine zd1 rfl ?_
   obtain ⟨y2,hy2,hF,he2,b2,_,q2,cs3,hp2,hq2,hr3,hc5⟩:=s1.ix hF
   obtain ⟨p5,k5,p6,k6,p7,k7,rfl,s5,s6,s7⟩:=qac hr3
   refine zdxe hp2 hq2 he2 rfl (zd1 rfl (zdc 0 (hc5.below h.below) rfl (Y1 2 0 h rfl ?_)))
   refine zd1 rfl ?_
   obtain ⟨y3,hy3,hF,he3,b3,_,q3,cs4,hp3,hq3,hr4,hc6⟩:=s1.ix hF
   obtain ⟨p8,k8,p9,k9,p10,k10,rfl,s8,s9,s10⟩:=qac hr4
   refine zdxe hp3 hq3 he3 rfl (zd1 rfl (zdc 0 (hc6.below h.below) rfl (zd1 rfl (dN h fun w5 h=>qh rfl hF ?_ ?_))))<;>intro hF
   ·refine X0 4 rfl ?_
    obtain rfl:=qb hF;replace hF:=hK2
    obtain rfl:=qb hF;replace hF:=hK1
    exact rb h hF rfl
   exact X0 7 rfl (rK ⟨_,hF,rfl,h⟩ rfl)
  refine qu rfl ?_
  obtain rfl:=qb hF;replace hF:=hK2
  exact X0 6 rfl (rK ⟨_,hF,rfl,h⟩ rfl)
 refine qu rfl ?_
 obtain rfl:=qb hF;replace hF:=hK1
 exact X1 8 0 h rfl (rb h hF rfl)
def qd2 (a_1:qd) (y1:qn):Nat→Int→Option (Flow Bool Int)
 | 0,_=>none
 | n+1,i2 =>
  bif decide (i2<(y1.Am.length:Int)) then
   (idx y1.Am i2).bind fun y2 =>
   (qap n y2 0 (W64 ((a_1.Am.length:Int)-1))).bind fun r1 =>
   bif (!r1) then some (.ret false) else
   qd2 a_1 y1 n (W64 (i2+1))
  else
   some (.nxt i2)
def qdY (a_1:qd):Nat→Int→Option (Flow Bool Int)
 | 0,_=>none
 | n+1,i3 =>
  bif decide (i3<(a_1.Aj.length:Int)) then
   (idx a_1.Aj i3).bind fun y4 =>
   (qap n y4.Bv 1 2).bind fun r3 =>
   bif (!r3) then some (.ret false) else
   (idx a_1.Aj i3).bind fun y5 =>
   (qap n y5.Bx 0 (W64 ((a_1.Am.length:Int)-1))).bind fun r4 =>
   bif (!r4) then some (.ret false) else
   qdY a_1 n (W64 (i3+1))
  else
   some (.nxt i3)
def qd6 (a_0:qp) (a_1:qd):Nat→Int→Option (Flow Bool Int)
 | 0,_=>none
 | n+1,i1 =>
  bif decide (i1<(a_1.Aa.length:Int)) then
   (idx a_1.Aa i1).bind fun y1 =>
   (
    (qap n y1.Bs 0 (W64 ((a_0.Aq.length:Int)-1))).bind fun r2 =>
    bif (!r2) then some true else
    (idx a_0.Aq y1.Bs).bind fun y3 =>
    some ((y1.Am.length:Int) != (y3.Be.length:Int))).bind fun b2 =>
   bif b2 then some (.ret false) else
   (qd2 a_1 y1 n 0).bind fun o=>match o with
   | .ret r=>some (.ret r)
   | .nxt _ =>
    qd6 a_0 a_1 n (W64 (i1+1))
  else
   some (.nxt i1)
def qiJ (n:Nat) (a_0:qp) (a_1:qd):Option Bool :=
 (qd6 a_0 a_1 n 0).bind fun o=>match o with
 | .ret r=>some r
 | .nxt _ =>
  (qdY a_1 n 0).bind fun o=>match o with
  | .ret r=>some r
  | .nxt _ =>
   some true
theorem qoJ {a_0:qp} {a_1:qd} (ha1:GoT.R w (old w) a_0 cs1) (ha2:GoT.R w (old w) a_1 cs2) {r:Bool} (hF:qiJ n a_0 a_1=some r):RetV Tryz.prog 207 [GoT.v qp cs1,GoT.v qd cs2] w r:=by
 obtain ⟨p1,k1,rfl,s1⟩:=qbw ha1
 obtain ⟨p2,k2,p3,k3,p4,k4,rfl,s2,s3,s4⟩:=qat ha2
 refine zV 90 Tryz.func207 rfl fun h=>zSR (qt h rfl rfl fun w1 bb1 h=>qt h rfl rfl fun w2 bb2 h=>X1 14 0 h rfl ?_)
 obtain ⟨o1,hF,hK1⟩:=qc hF
 refine ql (rL (fun m e w'=>∃ (i1:Int),qd6 a_0 a_1 m i1=some o1∧e=[(2,.pointer (some ⟨bb1,0,none⟩)),(3,.pointer (some ⟨bb2,0,none⟩)),(5,.int .i64 (a_1.Am.length:Int)),(6,.int .i64 i1)]∧SH w w' [Ch.box bb2 (qaH a_1 p2 p3 p4 k2 k3 k4) 48,Ch.box bb1 [.slice p1 a_0.Aq.length k1] 44]) n ⟨_,hF,rfl,h⟩ rfl ?_)
 rintro m1 e1 w3 ⟨i1,hF,rfl,h⟩
 rcases m1 with _|m1
 ·cases hF
 refine X1 9 0 h rfl (qh rfl hF ?_ ?_)<;>intro hF
 ·refine X1 8 0 h rfl ?_
  obtain ⟨y1,hy1,hF,he1,b1,_,q1,cs3,hp1,hq1,hr1,hc2⟩:=s2.ix hF
  obtain ⟨p5,k5,rfl,s5⟩:=qO hr1
  refine zxe hp1 hq1 he1 rfl (zc 0 (hc2.below h.below) rfl (qm qa h rfl rfl rfl fun w4 bb3 h=>zs 0 h rfl fun w5 h=>zNSS ?_))
  obtain ⟨KF1,hKF1,o3,hF,hK3⟩:=bindE hF
  refine qbm (fun e w'=>∃ (b2:Bool),KF1 b2=some o1∧e=[(2,.pointer (some ⟨bb1,0,none⟩)),(3,.pointer (some ⟨bb2,0,none⟩)),(5,.int .i64 (a_1.Am.length:Int)),(6,.int .i64 i1),(7,.pointer (some ⟨bb3,0,none⟩)),(46,.bool b2)]∧SH w w' [Ch.box bb3 (qi4 y1 p5 k5) 170,Ch.box bb2 (qaH a_1 p2 p3 p4 k2 k3 k4) 48,Ch.box bb1 [.slice p1 a_0.Aq.length k1] 44]) ?_ ?_
  ·refine rD (Y1 2 0 h rfl ?_)
   refine Y1 2 2 h rfl ?_
   refine zd2 rfl ?_
   obtain ⟨r2,hr4,hF⟩:=qc hF
   refine qaO r2 (vsB _) (cB 63 rfl) (fun _ hb=>qae  hr4) rfl rfl rfl rfl (zd2 rfl (qaJ (t:=33) hF rfl ?_ ?_))<;>intro hF
   ·refine Y0 13 rfl (dN h fun w8 h=>?_)
    obtain rfl:=qb hF
    exact rG ⟨_,hK3,rfl,h⟩ rfl
   refine Y1 4 0 h rfl ?_
   refine Y1 6 2 h rfl ?_
   refine Y1 4 0 h rfl ?_
   refine Y0 1 rfl ?_
   obtain ⟨y3,hy3,hF,he3,b4,_,q3,cs5,hp3,hq3,hr5,hc7⟩:=s1.ix hF
   obtain ⟨p6,k6,p7,k7,p8,k8,rfl,s6,s7,s8⟩:=qac hr5
   refine zdxe hp3 hq3 he3 rfl (Y0 3 rfl (zdc 2 (hc7.below h.below) rfl (Y0 5 rfl (dN h fun w9 h=>?_))))
   obtain rfl:=qb hF
   exact rG ⟨_,hK3,rfl,h⟩ rfl
  rintro e3 w10 ⟨b2,hF,rfl,h⟩
  subst hKF1
  refine qh rfl hF ?_ ?_<;>intro hF
  ·refine X0 4 rfl ?_
   obtain rfl:=qb hF;replace hF:=hK1
   exact rb h hF rfl
  refine X0 5 rfl ?_
  obtain ⟨o2,hF,hK2⟩:=qc hF
  refine ql (rL (fun m e w'=>∃ (i2:Int),qd2 a_1 y1 m i2=some o2∧e=[(2,.pointer (some ⟨bb1,0,none⟩)),(3,.pointer (some ⟨bb2,0,none⟩)),(5,.int .i64 (a_1.Am.length:Int)),(6,.int .i64 i1),(7,.pointer (some ⟨bb3,0,none⟩)),(8,.int .i64 i2)]∧SH w w' [Ch.box bb3 (qi4 y1 p5 k5) 170,Ch.box bb2 (qaH a_1 p2 p3 p4 k2 k3 k4) 48,Ch.box bb1 [.slice p1 a_0.Aq.length k1] 44]) m1 ⟨_,hF,rfl,h⟩ rfl ?_)
  rintro m2 e2 w6 ⟨i2,hF,rfl,h⟩
  rcases m2 with _|m2
  ·cases hF
  refine X1 9 0 h rfl (qh rfl hF ?_ ?_)<;>intro hF
  ·refine X1 8 0 h rfl ?_
   obtain ⟨y2,hy2,hF,he2,b3,_,q2,cs4,hp2,hq2,rfl,hc5⟩:=s5.ix hF
   refine zxe hp2 hq2 he2 rfl (zc 0 (hc5.below h.below) rfl (zp2 rfl (zcB h hF qae rfl fun r1 w7 h hF=>X0 2 rfl (qh rfl hF ?_ ?_))))<;>intro hF
   ·refine X0 4 rfl ?_
    obtain rfl:=qb hF;replace hF:=hK2
    obtain rfl:=qb hF;replace hF:=hK1
    exact rb h hF rfl
   exact X0 7 rfl (rK ⟨_,hF,rfl,h⟩ rfl)
  refine qu rfl ?_
  obtain rfl:=qb hF;replace hF:=hK2
  refine X0 6 rfl ?_
  replace h:=h.pick [1,2] rfl
  exact rK ⟨_,hF,rfl,h⟩ rfl
 refine qu rfl ?_
 obtain rfl:=qb hF;replace hF:=hK1
 refine X0 5 rfl ?_
 obtain ⟨o4,hF,hK4⟩:=qc hF
 refine ql ?_
 replace h:=h.pick [0] rfl
 refine rL (fun m e w'=>∃ (i3:Int),qdY a_1 m i3=some o4∧e=[(3,.pointer (some ⟨bb2,0,none⟩)),(5,.int .i64 (a_1.Am.length:Int)),(9,.int .i64 i3)]∧SH w w' [Ch.box bb2 (qaH a_1 p2 p3 p4 k2 k3 k4) 48]) n ⟨_,hF,rfl,h⟩ rfl ?_
 rintro m3 e4 w11 ⟨i3,hF,rfl,h⟩
 rcases m3 with _|m3
 ·cases hF
 refine X1 9 0 h rfl (qh rfl hF ?_ ?_)<;>intro hF
 ·refine X1 8 0 h rfl ?_
  obtain ⟨y4,hy4,hF,he4,b5,_,q4,cs6,hp4,hq4,hr6,hc9⟩:=s4.ix hF
  obtain rfl:=qbj hr6
  refine zxe hp4 hq4 he4 rfl (zp1 rfl (zc 1 (hc9.below h.below) rfl (zcB h hF qae rfl fun r3 w12 h hF=>zp2 rfl (qi (t:=78) hF rfl ?_ ?_))))<;>intro hF
  ·refine X0 12 rfl (qbW rfl rfl (X0 4 rfl ?_))
   obtain rfl:=qb hF;replace hF:=hK4
   exact rb h hF rfl
  refine X1 7 0 h rfl ?_
  obtain ⟨y5,hy5,hF,he5,b6,_,q5,cs7,hp5,hq5,hr8,hc10⟩:=s4.ix hF
  obtain rfl:=qbj hr8
  refine zxe hp5 hq5 he5 rfl (X0 3 rfl (zc 2 (hc10.below h.below) rfl (X0 5 rfl (zcB h hF qae rfl fun r4 w13 h hF=>X0 4 rfl (qh rfl hF ?_ ?_)))))<;>intro hF
  ·refine X0 4 rfl ?_
   obtain rfl:=qb hF;replace hF:=hK4
   exact rb h hF rfl
  exact X0 7 rfl (rK ⟨_,hF,rfl,h⟩ rfl)
 refine qu rfl ?_
 obtain rfl:=qb hF;replace hF:=hK4
 exact X0 4 rfl (rb h hF rfl)
def qd1 (list:(List ByteArray)) (i1:Int):Nat→Int→Option (Flow Bool Int)
 | 0,_=>none
 | n+1,i2 =>
  bif decide (i2<i1) then
   (idx list i2).bind fun y2 =>
   (idx list i1).bind fun y3 =>
   bif (y2.toList==y3.toList) then some (.ret false) else
   qd1 list i1 n (W64 (i2+1))
  else
   some (.nxt i2)
def qd5 (list:(List ByteArray)):Nat→Int→Option (Flow Bool Int)
 | 0,_=>none
 | n+1,i1 =>
  bif decide (i1<(list.length:Int)) then
   (idx list i1).bind fun y1 =>
   (qfw n y1).bind fun r1 =>
   bif (!r1) then some (.ret false) else
   (qd1 list i1 n 0).bind fun o=>match o with
   | .ret r=>some (.ret r)
   | .nxt _ =>
    qd5 list n (W64 (i1+1))
  else
   some (.nxt i1)
def qfZ (n:Nat) (list:(List ByteArray)):Option Bool :=
 (qd5 list n 0).bind fun o=>match o with
 | .ret r=>some r
 | .nxt _ =>
  some true
theorem qiG {list:(List ByteArray)} (ha1:GoT.R w (old w) list cs1) {r:Bool} (hF:qfZ n list=some r):RetV Tryz.prog 208 [GoT.v (List ByteArray) cs1] w r:=by
 obtain ⟨p1,k1,rfl,s1⟩:=ha1
 refine zV 31 Tryz.func208 rfl fun h=>X0 9 rfl ?_
 obtain ⟨o1,hF,hK1⟩:=qc hF
 refine ql (rL (fun m e w'=>∃ (i1:Int),qd5 list m i1=some o1∧e=[(0,.slice p1 list.length k1),(3,.int .i64 i1)]∧SH w w' []) n ⟨_,hF,rfl,h⟩ rfl ?_)
 rintro m1 e1 w1 ⟨i1,hF,rfl,h⟩
 rcases m1 with _|m1
 ·cases hF
 refine X0 8 rfl (qh rfl hF ?_ ?_)<;>intro hF
 ·refine X0 8 rfl ?_
  obtain ⟨y1,hy1,hF,he1,b1,_,q1,cs2,hp1,hq1,rfl,hc2⟩:=s1.ix hF
  refine zxe hp1 hq1 he1 rfl (zc 0 (hc2.below h.below) rfl (zcB h hF qhp rfl fun r1 w2 h hF=>X0 2 rfl (qh rfl hF ?_ ?_)))<;>intro hF
  ·refine X0 4 rfl ?_
   obtain rfl:=qb hF;replace hF:=hK1
   exact rb h hF rfl
  refine X0 5 rfl ?_
  obtain ⟨o2,hF,hK2⟩:=qc hF
  refine ql (rL (fun m e w'=>∃ (i2:Int),qd1 list i1 m i2=some o2∧e=[(0,.slice p1 list.length k1),(3,.int .i64 i1),(4,.int .i64 i2)]∧SH w w' []) m1 ⟨_,hF,rfl,h⟩ rfl ?_)
  rintro m2 e2 w3 ⟨i2,hF,rfl,h⟩
  rcases m2 with _|m2
  ·cases hF
  refine X0 7 rfl (qh rfl hF ?_ ?_)<;>intro hF
  ·refine X0 4 rfl (rD (zd2 rfl ?_))
   obtain ⟨y2,hy2,hF,he2,b2,_,q2,cs3,hp2,hq2,rfl,hc5⟩:=s1.ix hF
   refine zdxe hp2 hq2 he2 rfl (zdc 0 (hc5.below h.below) rfl (zd2 rfl ?_))
   obtain ⟨y3,hy3,hF,he3,b3,_,q3,cs4,hp3,hq3,rfl,hc6⟩:=s1.ix hF
   refine zdxe hp3 hq3 he3 rfl (zdc 0 (hc6.below h.below) rfl (zd1 rfl (dN h fun w4 h=>qh rfl hF ?_ ?_)))<;>intro hF
   ·refine X0 4 rfl ?_
    obtain rfl:=qb hF;replace hF:=hK2
    obtain rfl:=qb hF;replace hF:=hK1
    exact rb h hF rfl
   exact X0 7 rfl (rK ⟨_,hF,rfl,h⟩ rfl)
  refine qu rfl ?_
  obtain rfl:=qb hF;replace hF:=hK2
  exact X0 6 rfl (rK ⟨_,hF,rfl,h⟩ rfl)
 refine qu rfl ?_
 obtain rfl:=qb hF;replace hF:=hK1
 exact X0 4 rfl (rb h hF rfl)
def qd7 (x5:(List Int)) (x7:(List Int)):Nat→Int→Option (Flow Bool Int)
 | 0,_=>none
 | n+1,i5 =>
  bif decide (i5<(x5.length:Int)) then
   (idx x7 i5).bind fun y11 =>
   bif (y11 != 1) then some (.ret false) else
   qd7 x5 x7 n (W64 (i5+1))
  else
   some (.nxt i5)
def qcm (a_1:qd):Nat→(List Int)→Int→Option ((List Int) × Int)
 | 0,_,_=>none
 | n+1,x7,i4 =>
  bif decide (i4<(a_1.Aj.length:Int)) then
   (idx a_1.Aj i4).bind fun y7 =>
   bif (y7.Bv==1) then
    (idx a_1.Aj i4).bind fun y8 =>
    (idx x7 y8.Bx).bind fun y9 =>
    (idx x7 y8.Bx).bind fun _ =>
    qcm a_1 n (setS x7 y8.Bx (W64 (y9+1))) (W64 (i4+1))
   else
    qcm a_1 n x7 (W64 (i4+1))
  else
   some (x7,i4)
def qc2 (a_1:qd):Nat→(List Int)→Int→Option ((List Int) × Int)
 | 0,_,_=>none
 | n+1,x6,i3 =>
  bif decide (i3<(a_1.Aa.length:Int)) then
   (idx a_1.Aa i3).bind fun y3 =>
   (idx y3.Am (W64 ((y3.Am.length:Int)-1))).bind fun y4 =>
   (idx x6 y4).bind fun y5 =>
   (idx x6 y4).bind fun _ =>
   qc2 a_1 n (setS x6 y4 (W64 (y5+1))) (W64 (i3+1))
  else
   some (x6,i3)
def qc6 (a_1:qd):Nat→(List ByteArray)→Int→Option ((List ByteArray) × Int)
 | 0,_,_=>none
 | n+1,x3,i2 =>
  bif decide (i2<(a_1.Aj.length:Int)) then
   (idx a_1.Aj i2).bind fun y2 =>
   (appS x3 ([y2.Bb]:List ByteArray)).bind fun x4 =>
   qc6 a_1 n x4 (W64 (i2+1))
  else
   some (x3,i2)
def qc0 (a_1:qd):Nat→(List ByteArray)→Int→Option ((List ByteArray) × Int)
 | 0,_,_=>none
 | n+1,x1,i1 =>
  bif decide (i1<(a_1.Aa.length:Int)) then
   (idx a_1.Aa i1).bind fun y1 =>
   (appS x1 ([y1.Bb]:List ByteArray)).bind fun x2 =>
   qc0 a_1 n x2 (W64 (i1+1))
  else
   some (x1,i1)
def qiQ (n:Nat) (a_0:qp) (a_1:qd):Option Bool :=
 (
  (qh1 n a_0).bind fun r4 =>
  bif (!r4) then some true else
  bif decide ((a_1.Aa.length:Int) > 14) then some true else
  bif decide ((a_1.Am.length:Int) > 30) then some true else
  bif decide ((a_1.Aj.length:Int) > 8) then some true else
  (qiJ n a_0 a_1).bind fun r5 =>
  some (!r5)).bind fun b1 =>
 bif b1 then some false else
 (qc0 a_1 n ([]:List ByteArray) 0).bind fun o=>match o with
 | (x1,_) =>
  (qc6 a_1 n ([]:List ByteArray) 0).bind fun o=>match o with
  | (x3,_) =>
   (
    (qfZ n x1).bind fun r1 =>
    bif (!r1) then some true else
    (qfZ n x3).bind fun r2 =>
    bif (!r2) then some true else
    (qfZ n a_1.Am).bind fun r3 =>
    some (!r3)).bind fun b4 =>
   bif b4 then some false else
   (mkS (a_1.Am.length:Int) (0:Int)).bind fun x5 =>
   (qc2 a_1 n x5 0).bind fun o=>match o with
   | (x6,_) =>
    (qcm a_1 n x6 0).bind fun o=>match o with
    | (x7,_) =>
     (qd7 x5 x7 n 0).bind fun o=>match o with
     | .ret r=>some r
     | .nxt _ =>
      some true
theorem qoB {a_0:qp} {a_1:qd} (ha1:GoT.R w (old w) a_0 cs1) (ha2:GoT.R w (old w) a_1 cs2) {r:Bool} (hF:qiQ n a_0 a_1=some r):RetV Tryz.prog 177 [GoT.v qp cs1,GoT.v qd cs2] w r:=by
 obtain ⟨p1,k1,rfl,s1⟩:=qbw ha1
 obtain ⟨p2,k2,p3,k3,p4,k4,rfl,s2,s3,s4⟩:=qat ha2
 refine zV 153 Tryz.func177 rfl fun h=>zSR (qt h rfl rfl fun w1 bb1 h=>qt h rfl rfl fun w2 bb2 h=>X0 4 rfl ?_)
 obtain ⟨KF2,hKF2,o7,hF,hK7⟩:=bindE hF
 refine qbm (fun e w'=>∃ (b1:Bool),KF2 b1=some r∧e=[(3,.pointer (some ⟨bb2,0,none⟩)),(40,.bool b1)]∧SH w w' [Ch.box bb2 (qaH a_1 p2 p3 p4 k2 k3 k4) 48]) ?_ ?_
 ·refine X1 2 1 h rfl (zcB h hF (qnZ (h.old ha1)) rfl fun r4 w21 h hF=>zp2 rfl (qi (t:=17) hF rfl ?_ ?_))<;>intro hF
  ·refine X0 24 rfl ?_
   replace h:=h.pick [0] rfl
   obtain rfl:=qb hF
   exact rG ⟨_,hK7,rfl,h⟩ rfl
  refine X1 10 0 h rfl (qi (t:=23) hF rfl ?_ ?_)<;>intro hF
  ·refine X0 18 rfl ?_
   replace h:=h.pick [0] rfl
   obtain rfl:=qb hF
   exact rG ⟨_,hK7,rfl,h⟩ rfl
  refine X1 10 0 h rfl (qi (t:=29) hF rfl ?_ ?_)<;>intro hF
  ·refine X0 12 rfl ?_
   replace h:=h.pick [0] rfl
   obtain rfl:=qb hF
   exact rG ⟨_,hK7,rfl,h⟩ rfl
  refine X1 10 0 h rfl (qi (t:=35) hF rfl ?_ ?_)<;>intro hF
  ·refine X0 6 rfl ?_
   replace h:=h.pick [0] rfl
   obtain rfl:=qb hF
   exact rG ⟨_,hK7,rfl,h⟩ rfl
  refine X2 5 1 0 h rfl (zcB h hF (qoJ (h.old ha1) (h.old ha2)) rfl fun r5 w22 h hF=>X0 4 rfl ?_)
  replace h:=h.pick [0] rfl
  obtain rfl:=qb hF
  exact rG ⟨_,hK7,rfl,h⟩ rfl
 rintro e7 w23 ⟨b1,hF,rfl,h⟩
 subst hKF2
 refine qh rfl hF ?_ ?_<;>intro hF
 ·exact X0 4 rfl (rb h hF rfl)
 refine zKSR (qK qa [] _ ([]:List ByteArray) h rfl rfl rfl rfl rfl rfl rfl rfl rfl trivial rfl fun w3 p5 S1 h=>X0 7 rfl ?_)
 obtain ⟨o1,hF,hK1⟩:=qc hF
 refine ql (rL (fun m e w'=>∃ (S2:Nat→Prop) (p6:Option Addr) (ln1:Nat) (k5:Nat) (x1:(List ByteArray)) (i1:Int),qc0 a_1 m x1 i1=some o1∧e=[(3,.pointer (some ⟨bb2,0,none⟩)),(5,.slice p6 ln1 k5),(6,.int .i64 i1)]∧SH w w' [Ch.own S2 (x1:List ByteArray) [.slice p6 ln1 k5],Ch.box bb2 (qaH a_1 p2 p3 p4 k2 k3 k4) 48]) n ⟨_,_,_,_,_,_,hF,rfl,h⟩ rfl ?_)
 rintro m1 e1 w4 ⟨S2,p6,ln1,k5,x1,i1,hF,rfl,h⟩
 obtain rfl:=(h.sl 0 rfl).2
 rcases m1 with _|m1
 ·cases hF
 refine X1 9 1 h rfl (qh rfl hF ?_ ?_)<;>intro hF
 ·refine X1 8 1 h rfl ?_
  obtain ⟨y1,hy1,hF,he1,b2,_,q1,cs3,hp1,hq1,hr1,hc3⟩:=s2.ix hF
  obtain ⟨p7,k6,rfl,s5⟩:=qO hr1
  refine zxe hp1 hq1 he1 rfl (zp1 rfl (zc 0 (hc3.below h.below) rfl (qK qa [.tmp 55] _ ([y1.Bb]:List ByteArray) h rfl rfl rfl rfl rfl rfl rfl rfl rfl ⟨rfl,trivial⟩ rfl fun w5 p8 S3 h=>?_)))
  obtain ⟨x2,hx1,hF⟩:=qc hF
  obtain ⟨g1,hx1⟩:=qay hx1
  refine qcE qa 1 h rfl (h.sl 0 rfl).1 (h.sl 0 rfl).2 rfl rfl rfl rfl rfl rfl rfl rfl rfl g1 hx1 rfl fun w6 p9 k7 S4 h=>X0 8 rfl ?_
  replace h:=h.pick [1,2] rfl
  exact rK ⟨_,_,_,_,_,_,hF,rfl,h⟩ rfl
 refine qu rfl ?_
 obtain rfl:=qb hF;replace hF:=hK1
 refine zSR (qK qa [] _ ([]:List ByteArray) h rfl rfl rfl rfl rfl rfl rfl rfl rfl trivial rfl fun w7 p10 S5 h=>X0 7 rfl ?_)
 obtain ⟨o2,hF,hK2⟩:=qc hF
 refine ql (rL (fun m e w'=>∃ (S6:Nat→Prop) (p11:Option Addr) (ln2:Nat) (k8:Nat) (x3:(List ByteArray)) (i2:Int),qc6 a_1 m x3 i2=some o2∧e=[(3,.pointer (some ⟨bb2,0,none⟩)),(5,.slice p6 x1.length k5),(7,.slice p11 ln2 k8),(8,.int .i64 i2)]∧SH w w' [Ch.own S6 (x3:List ByteArray) [.slice p11 ln2 k8],Ch.own S2 (x1:List ByteArray) [.slice p6 x1.length k5],Ch.box bb2 (qaH a_1 p2 p3 p4 k2 k3 k4) 48]) n ⟨_,_,_,_,_,_,hF,rfl,h⟩ rfl ?_)
 rintro m2 e2 w8 ⟨S6,p11,ln2,k8,x3,i2,hF,rfl,h⟩
 obtain rfl:=(h.sl 0 rfl).2
 rcases m2 with _|m2
 ·cases hF
 refine X1 9 2 h rfl (qh rfl hF ?_ ?_)<;>intro hF
 ·refine X1 8 2 h rfl ?_
  obtain ⟨y2,hy2,hF,he2,b3,_,q2,cs4,hp2,hq2,hr2,hc5⟩:=s4.ix hF
  obtain rfl:=qbj hr2
  refine zxe hp2 hq2 he2 rfl (zp1 rfl (zc 0 (hc5.below h.below) rfl (qK qa [.tmp 72] _ ([y2.Bb]:List ByteArray) h rfl rfl rfl rfl rfl rfl rfl rfl rfl ⟨rfl,trivial⟩ rfl fun w9 p12 S7 h=>?_)))
  obtain ⟨x4,hx2,hF⟩:=qc hF
  obtain ⟨g2,hx2⟩:=qay hx2
  refine qcE qa 1 h rfl (h.sl 0 rfl).1 (h.sl 0 rfl).2 rfl rfl rfl rfl rfl rfl rfl rfl rfl g2 hx2 rfl fun w10 p13 k9 S8 h=>X0 8 rfl ?_
  replace h:=h.pick [1,2,3] rfl
  exact rK ⟨_,_,_,_,_,_,hF,rfl,h⟩ rfl
 refine qu rfl ?_
 obtain rfl:=qb hF;replace hF:=hK2
 refine zSS ?_
 obtain ⟨KF1,hKF1,o6,hF,hK6⟩:=bindE hF
 refine qbm (fun e w'=>∃ (b4:Bool),KF1 b4=some r∧e=[(3,.pointer (some ⟨bb2,0,none⟩)),(88,.bool b4)]∧SH w w' [Ch.box bb2 (qaH a_1 p2 p3 p4 k2 k3 k4) 48]) ?_ ?_
 ·refine X0 2 rfl (zcB h hF (qiG (h.own 1 rfl)) rfl fun r1 w17 h hF=>zp2 rfl (qi (t:=78) hF rfl ?_ ?_))<;>intro hF
  ·refine X0 11 rfl ?_
   replace h:=h.pick [2] rfl
   obtain rfl:=qb hF
   exact rG ⟨_,hK6,rfl,h⟩ rfl
  refine X0 3 rfl (zcB h hF (qiG (h.own 0 rfl)) rfl fun r2 w18 h hF=>X0 4 rfl (qi (t:=83) hF rfl ?_ ?_))<;>intro hF
  ·refine X0 6 rfl ?_
   replace h:=h.pick [2] rfl
   obtain rfl:=qb hF
   exact rG ⟨_,hK6,rfl,h⟩ rfl
  refine X1 5 2 h rfl (zcB h hF (qiG ⟨_,_,rfl,(h.oldS s3)⟩) rfl fun r3 w19 h hF=>X0 4 rfl ?_)
  replace h:=h.pick [2] rfl
  obtain rfl:=qb hF
  exact rG ⟨_,hK6,rfl,h⟩ rfl
 rintro e6 w20 ⟨b4,hF,rfl,h⟩
 subst hKF1
 refine qh rfl hF ?_ ?_<;>intro hF
 ·exact X0 4 rfl (rb h hF rfl)
 refine X1 6 0 h rfl ?_
 obtain ⟨x5,hx3,hF⟩:=qc hF
 obtain ⟨g3,g4,hx3⟩:=qN hx3
 refine qai qa Int h rfl rfl rfl rfl rfl rfl rfl rfl rfl g3 g4 hx3 rfl fun w11 S9 p14 h=>X0 7 rfl ?_
 obtain ⟨o3,hF,hK3⟩:=qc hF
 refine ql (rL (fun m e w'=>∃ (x6:(List Int)) (i3:Int),qc2 a_1 m x6 i3=some o3∧e=[(3,.pointer (some ⟨bb2,0,none⟩)),(9,.slice p14 x5.length x5.length),(10,.int .i64 i3)]∧SH w w' [Ch.own S9 (x6:List Int) [.slice p14 x5.length x5.length],Ch.box bb2 (qaH a_1 p2 p3 p4 k2 k3 k4) 48]) n ⟨_,_,hF,rfl,h⟩ rfl ?_)
 rintro m3 e3 w12 ⟨x6,i3,hF,rfl,h⟩
 rcases m3 with _|m3
 ·cases hF
 refine X1 9 1 h rfl (qh rfl hF ?_ ?_)<;>intro hF
 ·refine X1 8 1 h rfl ?_
  obtain ⟨y3,hy3,hF,he3,b5,_,q3,cs5,hp3,hq3,hr3,hc8⟩:=s2.ix hF
  obtain ⟨p15,k10,rfl,s6⟩:=qO hr3
  refine zxe hp3 hq3 he3 rfl (zp1 rfl (zc 2 (hc8.below h.below) rfl (X0 8 rfl ?_)))
  obtain ⟨y4,hy4,hF,he4,b6,_,q4,cs6,hp4,hq4,rfl,hc9⟩:=s6.ix hF
  refine zxe hp4 hq4 he4 rfl (zc 0 (hc9.below h.below) rfl ?_)
  obtain ⟨y5,hy5,hF,he5,b7,_,q5,cs7,hp5,hq5,rfl,hc10⟩:=(h.sl 0 rfl).1.ix hF
  refine zx hp5 hq5 ⟨he5.1,qU he5.2.1 (h.sl 0 rfl).2⟩ rfl (zc 0 hc10 rfl (zp1 rfl ?_))
  obtain ⟨y6,hy6,hF,he6,b8,_,q6,cs8,hp6,hq6,rfl,hc11⟩:=(h.sl 0 rfl).1.ix hF
  exact zx hp6 hq6 ⟨he6.1,qU he6.2.1 (h.sl 0 rfl).2⟩ rfl (qbu qa 0 0 (W64 (y5+1)) h rfl hy6 hp6 hq6 rfl hc11 rfl rfl rfl rfl rfl rfl rfl fun w13 h=>X0 7 rfl (rK ⟨_,_,hF,rfl,h⟩ rfl))
 refine qu rfl ?_
 obtain rfl:=qb hF;replace hF:=hK3
 refine X0 5 rfl ?_
 obtain ⟨o4,hF,hK4⟩:=qc hF
 refine ql (rL (fun m e w'=>∃ (x7:(List Int)) (i4:Int),qcm a_1 m x7 i4=some o4∧e=[(3,.pointer (some ⟨bb2,0,none⟩)),(9,.slice p14 x5.length x5.length),(12,.int .i64 i4)]∧SH w w' [Ch.own S9 (x7:List Int) [.slice p14 x5.length x5.length],Ch.box bb2 (qaH a_1 p2 p3 p4 k2 k3 k4) 48]) n ⟨_,_,hF,rfl,h⟩ rfl ?_)
 rintro m4 e4 w14 ⟨x7,i4,hF,rfl,h⟩
 rcases m4 with _|m4
 ·cases hF
 refine X1 9 1 h rfl (qh rfl hF ?_ ?_)<;>intro hF
 ·refine X1 8 1 h rfl ?_
  obtain ⟨y7,hy7,hF,he7,b9,_,q7,cs9,hp7,hq7,hr7,hc13⟩:=s4.ix hF
  obtain rfl:=qbj hr7
  refine zxe hp7 hq7 he7 rfl (zp1 rfl (zc 1 (hc13.below h.below) rfl (X0 2 rfl (qh rfl hF ?_ ?_))))<;>intro hF
  ·refine X1 5 1 h rfl ?_
   obtain ⟨y8,hy8,hF,he8,b10,_,q8,cs10,hp8,hq8,hr8,hc15⟩:=s4.ix hF
   obtain rfl:=qbj hr8
   refine zxe hp8 hq8 he8 rfl (zp1 rfl (zc 2 (hc15.below h.below) rfl ?_))
   obtain ⟨y9,hy9,hF,he9,b11,_,q9,cs11,hp9,hq9,rfl,hc16⟩:=(h.sl 0 rfl).1.ix hF
   refine zx hp9 hq9 ⟨he9.1,qU he9.2.1 (h.sl 0 rfl).2⟩ rfl (zc 0 hc16 rfl (zp1 rfl ?_))
   obtain ⟨y10,hy10,hF,he10,b12,_,q10,cs12,hp10,hq10,rfl,hc17⟩:=(h.sl 0 rfl).1.ix hF
   exact zx hp10 hq10 ⟨he10.1,qU he10.2.1 (h.sl 0 rfl).2⟩ rfl (qbu qa 0 0 (W64 (y9+1)) h rfl hy10 hp10 hq10 rfl hc17 rfl rfl rfl rfl rfl rfl rfl fun w15 h=>X0 7 rfl (rK ⟨_,_,hF,rfl,h⟩ rfl))
  exact X0 7 rfl (rK ⟨_,_,hF,rfl,h⟩ rfl)
 refine qu rfl ?_
 obtain rfl:=qb hF;replace hF:=hK4
 refine X0 5 rfl ?_
 obtain ⟨o5,hF,hK5⟩:=qc hF
 refine ql ?_
 replace h:=h.pick [0] rfl
 refine rL (fun m e w'=>∃ (i5:Int),qd7 x5 x7 m i5=some o5∧e=[(9,.slice p14 x5.length x5.length),(13,.int .i64 i5)]∧SH w w' [Ch.own S9 (x7:List Int) [.slice p14 x5.length x5.length]]) n ⟨_,hF,rfl,h⟩ rfl ?_
 rintro m5 e5 w16 ⟨i5,hF,rfl,h⟩
 rcases m5 with _|m5
 ·cases hF
 refine X0 8 rfl (qh rfl hF ?_ ?_)<;>intro hF
 ·refine X0 7 rfl ?_
  obtain ⟨y11,hy11,hF,he11,b13,_,q11,cs13,hp11,hq11,rfl,hc19⟩:=(h.sl 0 rfl).1.ix hF
  refine zx hp11 hq11 ⟨he11.1,qU he11.2.1 (h.sl 0 rfl).2⟩ rfl (zc 0 hc19 rfl (X0 2 rfl (qh rfl hF ?_ ?_)))<;>intro hF
  ·refine X0 4 rfl ?_
   obtain rfl:=qb hF;replace hF:=hK5
   exact rb h hF rfl
  exact X0 7 rfl (rK ⟨_,hF,rfl,h⟩ rfl)
 refine qu rfl ?_
 obtain rfl:=qb hF;replace hF:=hK5
 exact X0 4 rfl (rb h hF rfl)
def qfb (a_0:qQ):Nat→Int→Option (Flow Bool Int)
 | 0,_=>none
 | n+1,i2 =>
  bif decide (i2<(a_0.Bl.length:Int)) then
   (idx a_0.Bl i2).bind fun y7 =>
   (qap n y7 0 (W64 ((a_0.Ak.length:Int)-1))).bind fun r5 =>
   bif (!r5) then some (.ret false) else
   qfb a_0 n (W64 (i2+1))
  else
   some (.nxt i2)
def qcz (a_0:qQ):Nat→Int→Option (Flow Bool Int)
 | 0,_=>none
 | n+1,i1 =>
  bif decide (i1<(a_0.Ak.length:Int)) then
   (
    (idx a_0.Bt i1).bind fun y5 =>
    (qap n y5 0 500).bind fun r3 =>
    bif (!r3) then some true else
    (idx a_0.Bw i1).bind fun y6 =>
    (qap n y6 0 1000).bind fun r4 =>
    some (!r4)).bind fun b2 =>
   bif b2 then some (.ret false) else
   bif (i1==0) then
    (idx a_0.Ak i1).bind fun y1 =>
    bif (y1 != (-1)) then some (.ret false) else
    (idx a_0.Bw i1).bind fun y2 =>
    bif (y2 != 0) then some (.ret false) else
    bif decide (i1 > 0) then
     (idx a_0.Ak i1).bind fun y3 =>
     (qap n y3 0 (W64 (i1-1))).bind fun r1 =>
     bif (!r1) then some (.ret false) else
     qcz a_0 n (W64 (i1+1))
    else
     qcz a_0 n (W64 (i1+1))
   else
    bif decide (i1 > 0) then
     (idx a_0.Ak i1).bind fun y4 =>
     (qap n y4 0 (W64 (i1-1))).bind fun r2 =>
     bif (!r2) then some (.ret false) else
     qcz a_0 n (W64 (i1+1))
    else
     qcz a_0 n (W64 (i1+1))
  else
   some (.nxt i1)
def qkL (n:Nat) (a_0:qQ) (a_1:Int):Option Bool :=
 (
  bif decide ((a_0.Ak.length:Int)<1) then some true else
  bif decide ((a_0.Ak.length:Int) > 8) then some true else
  bif ((a_0.Bw.length:Int) != (a_0.Ak.length:Int)) then some true else
  bif ((a_0.Bt.length:Int) != (a_0.Ak.length:Int)) then some true else
  some ((a_0.Bl.length:Int) != a_1)).bind fun b1 =>
 bif b1 then some false else
 (qcz a_0 n 0).bind fun o=>match o with
 | .ret r=>some r
 | .nxt _ =>
  (qfb a_0 n 0).bind fun o=>match o with
  | .ret r=>some r
  | .nxt _ =>
   some true
theorem qqA {a_0:qQ} {a_1:Int} (ha1:GoT.R w (old w) a_0 cs1) {r:Bool} (hF:qkL n a_0 a_1=some r):RetV Tryz.prog 178 [GoT.v qQ cs1,.int .i64 a_1] w r:=by
 obtain ⟨p1,k1,p2,k2,p3,k3,p4,k4,rfl,s1,s2,s3,s4⟩:=qaL ha1
 refine zV 108 Tryz.func178 rfl fun h=>zSR (qt h rfl rfl fun w1 bb1 h=>X1 11 0 h rfl ?_)
 obtain ⟨KF2,hKF2,o4,hF,hK4⟩:=bindE hF
 refine qbm (fun e w'=>∃ (b1:Bool),KF2 b1=some r∧e=[(2,.pointer (some ⟨bb1,0,none⟩)),(5,.int .i64 (a_0.Ak.length:Int)),(37,.bool b1)]∧SH w w' [Ch.box bb1 (qf8 a_0 p1 p2 p3 p4 k1 k2 k3 k4) 186]) ?_ ?_
 ·refine X0 4 rfl (qi (t:=13) hF rfl ?_ ?_)<;>intro hF
  ·refine X0 25 rfl ?_
   obtain rfl:=qb hF
   exact rG ⟨_,hK4,rfl,h⟩ rfl
  refine X0 6 rfl (qi (t:=17) hF rfl ?_ ?_)<;>intro hF
  ·refine X0 21 rfl ?_
   obtain rfl:=qb hF
   exact rG ⟨_,hK4,rfl,h⟩ rfl
  refine X1 12 0 h rfl (qi (t:=24) hF rfl ?_ ?_)<;>intro hF
  ·refine X0 14 rfl ?_
   obtain rfl:=qb hF
   exact rG ⟨_,hK4,rfl,h⟩ rfl
  refine X1 12 0 h rfl (qi (t:=31) hF rfl ?_ ?_)<;>intro hF
  ·refine X0 7 rfl ?_
   obtain rfl:=qb hF
   exact rG ⟨_,hK4,rfl,h⟩ rfl
  refine X1 12 0 h rfl ?_
  obtain rfl:=qb hF
  exact rG ⟨_,hK4,rfl,h⟩ rfl
 rintro e4 w10 ⟨b1,hF,rfl,h⟩
 subst hKF2
 refine qh rfl hF ?_ ?_<;>intro hF
 ·exact X0 4 rfl (rb h hF rfl)
 refine X0 6 rfl ?_
 obtain ⟨o1,hF,hK1⟩:=qc hF
 refine ql (rL (fun m e w'=>∃ (i1:Int),qcz a_0 m i1=some o1∧e=[(2,.pointer (some ⟨bb1,0,none⟩)),(5,.int .i64 (a_0.Ak.length:Int)),(6,.int .i64 i1)]∧SH w w' [Ch.box bb1 (qf8 a_0 p1 p2 p3 p4 k1 k2 k3 k4) 186]) n ⟨_,hF,rfl,h⟩ rfl ?_)
 rintro m1 e1 w2 ⟨i1,hF,rfl,h⟩
 rcases m1 with _|m1
 ·cases hF
 refine X0 7 rfl (qh rfl hF ?_ ?_)<;>intro hF
 ·refine X0 5 rfl ?_
  obtain ⟨KF1,hKF1,o2,hF,hK2⟩:=bindE hF
  refine qbm (fun e w'=>∃ (b2:Bool),KF1 b2=some o1∧e=[(2,.pointer (some ⟨bb1,0,none⟩)),(5,.int .i64 (a_0.Ak.length:Int)),(6,.int .i64 i1),(58,.bool b2)]∧SH w w' [Ch.box bb1 (qf8 a_0 p1 p2 p3 p4 k1 k2 k3 k4) 186]) ?_ ?_
  ·refine X1 4 0 h rfl ?_
   obtain ⟨y5,hy5,hF,he5,b7,_,q5,cs6,hp5,hq5,rfl,hc10⟩:=s3.ix hF
   refine zxe hp5 hq5 he5 rfl (zc 0 (hc10.below h.below) rfl (zcB h hF qae rfl fun r3 w5 h hF=>zp2 rfl (qi (t:=50) hF rfl ?_ ?_)))<;>intro hF
   ·refine X0 9 rfl ?_
    obtain rfl:=qb hF
    exact rG ⟨_,hK2,rfl,h⟩ rfl
   refine X1 7 0 h rfl ?_
   obtain ⟨y6,hy6,hF,he6,b8,_,q6,cs7,hp6,hq6,rfl,hc11⟩:=s2.ix hF
   refine zxe hp6 hq6 he6 rfl (X0 1 rfl (zc 0 (hc11.below h.below) rfl (X0 1 rfl (zcB h hF qae rfl fun r4 w6 h hF=>X0 4 rfl ?_))))
   obtain rfl:=qb hF
   exact rG ⟨_,hK2,rfl,h⟩ rfl
  rintro e2 w7 ⟨b2,hF,rfl,h⟩
  subst hKF1
  refine qh rfl hF ?_ ?_<;>intro hF
  ·refine X0 4 rfl ?_
   obtain rfl:=qb hF;replace hF:=hK1
   exact rb h hF rfl
  refine X0 6 rfl (qi (t:=61) hF rfl ?_ ?_)<;>intro hF
  ·refine X1 7 0 h rfl ?_
   obtain ⟨y1,hy1,hF,he1,b3,_,q1,cs2,hp1,hq1,rfl,hc4⟩:=s1.ix hF
   refine zxe hp1 hq1 he1 rfl (X0 1 rfl (zc 0 (hc4.below h.below) rfl (X0 4 rfl (qi (t:=68) hF rfl ?_ ?_))))<;>intro hF
   ·refine X0 25 rfl (qbW rfl rfl (X0 4 rfl ?_))
    obtain rfl:=qb hF;replace hF:=hK1
    exact rb h hF rfl
   refine X1 7 0 h rfl ?_
   obtain ⟨y2,hy2,hF,he2,b4,_,q2,cs3,hp2,hq2,rfl,hc5⟩:=s2.ix hF
   refine zxe hp2 hq2 he2 rfl (X0 1 rfl (zc 0 (hc5.below h.below) rfl (X0 6 rfl (qi (t:=77) hF rfl ?_ ?_))))<;>intro hF
   ·refine X0 15 rfl (qbW rfl rfl (X0 4 rfl ?_))
    obtain rfl:=qb hF;replace hF:=hK1
    exact rb h hF rfl
   refine X0 6 rfl (qi (t:=80) hF rfl ?_ ?_)<;>intro hF
   ·refine X1 7 0 h rfl ?_
    obtain ⟨y3,hy3,hF,he3,b5,_,q3,cs4,hp3,hq3,rfl,hc6⟩:=s1.ix hF
    refine zxe hp3 hq3 he3 rfl (X0 1 rfl (zc 0 (hc6.below h.below) rfl (X0 5 rfl (zcB h hF qae rfl fun r1 w3 h hF=>X0 6 rfl (qh rfl hF ?_ ?_)))))<;>intro hF
    ·refine X0 4 rfl ?_
     obtain rfl:=qb hF;replace hF:=hK1
     exact rb h hF rfl
    exact X0 7 rfl (rK ⟨_,hF,rfl,h⟩ rfl)
   exact X0 13 rfl (qbS rfl rfl (X0 7 rfl (rK ⟨_,hF,rfl,h⟩ rfl)))
  refine X0 22 rfl (qi (t:=80) hF rfl ?_ ?_)<;>intro hF
  ·refine X1 7 0 h rfl ?_
   obtain ⟨y4,hy4,hF,he4,b6,_,q4,cs5,hp4,hq4,rfl,hc8⟩:=s1.ix hF
   refine zxe hp4 hq4 he4 rfl (X0 1 rfl (zc 0 (hc8.below h.below) rfl (X0 5 rfl (zcB h hF qae rfl fun r2 w4 h hF=>X0 6 rfl (qh rfl hF ?_ ?_)))))<;>intro hF
   ·refine X0 4 rfl ?_
    obtain rfl:=qb hF;replace hF:=hK1
    exact rb h hF rfl
   exact X0 7 rfl (rK ⟨_,hF,rfl,h⟩ rfl)
  exact X0 13 rfl (qbS rfl rfl (X0 7 rfl (rK ⟨_,hF,rfl,h⟩ rfl)))
 refine qu rfl ?_
 obtain rfl:=qb hF;replace hF:=hK1
 refine X0 5 rfl ?_
 obtain ⟨o3,hF,hK3⟩:=qc hF
 refine ql (rL (fun m e w'=>∃ (i2:Int),qfb a_0 m i2=some o3∧e=[(2,.pointer (some ⟨bb1,0,none⟩)),(5,.int .i64 (a_0.Ak.length:Int)),(7,.int .i64 i2)]∧SH w w' [Ch.box bb1 (qf8 a_0 p1 p2 p3 p4 k1 k2 k3 k4) 186]) n ⟨_,hF,rfl,h⟩ rfl ?_)
 rintro m2 e3 w8 ⟨i2,hF,rfl,h⟩
 rcases m2 with _|m2
 ·cases hF
 refine X1 9 0 h rfl (qh rfl hF ?_ ?_)<;>intro hF
 ·refine X1 8 0 h rfl ?_
  obtain ⟨y7,hy7,hF,he7,b9,_,q7,cs8,hp7,hq7,rfl,hc13⟩:=s4.ix hF
  refine zxe hp7 hq7 he7 rfl (zc 0 (hc13.below h.below) rfl (zp2 rfl (zcB h hF qae rfl fun r5 w9 h hF=>X0 2 rfl (qh rfl hF ?_ ?_))))<;>intro hF
  ·refine X0 4 rfl ?_
   obtain rfl:=qb hF;replace hF:=hK3
   exact rb h hF rfl
  exact X0 7 rfl (rK ⟨_,hF,rfl,h⟩ rfl)
 refine qu rfl ?_
 obtain rfl:=qb hF;replace hF:=hK3
 exact X0 4 rfl (rb h hF rfl)
def qet (b:qf):Nat→Int→Option (Flow Bool Int)
 | 0,_=>none
 | n+1,i1 =>
  bif decide (i1<(b.Ac.length:Int)) then
   (idx b.Ac i1).bind fun y1 =>
   (qf1 n (⟨b.Ab.Aa,b.Ab.Am,b.Ab.Aj⟩:qd) i1).bind fun r1 =>
   (qkL n y1 (r1.length:Int)).bind fun r2 =>
   bif (!r2) then some (.ret false) else
   qet b n (W64 (i1+1))
  else
   some (.nxt i1)
def qgK (n:Nat) (b:qf):Option Bool :=
 (
  (qiQ n (⟨b.Av.Aq⟩:qp) (⟨b.Ab.Aa,b.Ab.Am,b.Ab.Aj⟩:qd)).bind fun r3 =>
  bif (!r3) then some true else
  some ((b.Ac.length:Int) != (b.Ab.Am.length:Int))).bind fun b1 =>
 bif b1 then some false else
 (qet b n 0).bind fun o=>match o with
 | .ret r=>some r
 | .nxt _ =>
  some true
theorem qmc {b:qf} (ha1:GoT.R w (old w) b cs1) {r:Bool} (hF:qgK n b=some r):RetV Tryz.prog 143 [GoT.v qf cs1] w r:=by
 obtain ⟨p1,k1,p2,k2,p3,k3,p4,k4,p5,k5,rfl,s1,s2,s3,s4,s5⟩:=qab ha1
 refine zV 39 Tryz.func143 rfl fun h=>zSR (qt h rfl rfl fun w1 bb1 h=>X0 4 rfl ?_)
 obtain ⟨KF1,hKF1,o2,hF,hK2⟩:=bindE hF
 refine qbm (fun e w'=>∃ (b1:Bool),KF1 b1=some r∧e=[(1,.pointer (some ⟨bb1,0,none⟩)),(19,.bool b1)]∧SH w w' [Ch.box bb1 (qaQ b p1 p2 p3 p4 p5 k1 k2 k3 k4 k5) 51]) ?_ ?_
 ·refine X2 5 0 0 h rfl (zcB h hF (qoB (qdR _ (h.oldS s1)) (qao _ (h.oldS s2) (h.oldS s3) (h.oldS s4))) rfl fun r3 w6 h hF=>zp2 rfl (qi (t:=10) hF rfl ?_ ?_))<;>intro hF
  ·refine X0 10 rfl ?_
   obtain rfl:=qb hF
   exact rG ⟨_,hK2,rfl,h⟩ rfl
  refine X2 18 0 0 h rfl ?_
  obtain rfl:=qb hF
  exact rG ⟨_,hK2,rfl,h⟩ rfl
 rintro e2 w7 ⟨b1,hF,rfl,h⟩
 subst hKF1
 refine qh rfl hF ?_ ?_<;>intro hF
 ·exact X0 4 rfl (rb h hF rfl)
 refine X0 6 rfl ?_
 obtain ⟨o1,hF,hK1⟩:=qc hF
 refine ql (rL (fun m e w'=>∃ (i1:Int),qet b m i1=some o1∧e=[(1,.pointer (some ⟨bb1,0,none⟩)),(3,.int .i64 i1)]∧SH w w' [Ch.box bb1 (qaQ b p1 p2 p3 p4 p5 k1 k2 k3 k4 k5) 51]) n ⟨_,hF,rfl,h⟩ rfl ?_)
 rintro m1 e1 w2 ⟨i1,hF,rfl,h⟩
 rcases m1 with _|m1
 ·cases hF
 refine X1 9 0 h rfl (qh rfl hF ?_ ?_)<;>intro hF
 ·refine X0 4 rfl (rA [] [0] h rfl fun w3 h=>M1 7 [0,1,2] 0 (h.pick [0] rfl) rfl ?_)
  obtain ⟨y1,hy1,hF,he1,b2,_,q1,cs2,hp1,hq1,hr1,hc3⟩:=s5.ix hF
  obtain ⟨p6,k6,p7,k7,p8,k8,p9,k9,rfl,s6,s7,s8,s9⟩:=qaL hr1
  refine Ae 3 15 hp1 hq1 he1 (h.pick [0] rfl) rfl (Al 4 31 0 hc3 (h.pick [0] rfl) rfl (M1 255 [5,6,7] 0 (h.pick [0] rfl) rfl (Ao 8 511 rfl (zcL h hF (qiB (qao _ (h.oldS s2) (h.oldS s3) (h.oldS s4))) rfl fun r1 w4 S1 p10 k10 h hF=>G0 1023 [9] (h.pick [1] rfl) rfl (Ao 10 2047 rfl (zcB h hF (qqA (qjZ y1 (h.oldS s6) (h.oldS s7) (h.oldS s8) (h.oldS s9))) rfl fun r2 w5 h hF=>G0 4095 [11] (h.pick [1] rfl) rfl (Ad (qh rfl hF ?_ ?_))))))))<;>intro hF
  ·refine X0 4 rfl ?_
   obtain rfl:=qb hF;replace hF:=hK1
   exact rb h hF rfl
  refine X0 7 rfl ?_
  replace h:=h.pick [1] rfl
  exact rK ⟨_,hF,rfl,h⟩ rfl
 refine qu rfl ?_
 obtain rfl:=qb hF;replace hF:=hK1
 exact X0 4 rfl (rb h hF rfl)
def qaG (_:Nat) (x:Int) (low:Int) (high:Int):Option Bool :=
 bif decide (x ≥ low) then some (decide (x≤high)) else
 some false
theorem qav {x:Int} {low:Int} {high:Int}  {r:Bool} (hF:qaG n x low high=some r):RetV Tryz.prog 159 [.int .i64 x,.int .i64 low,.int .i64 high] w r:=by
 refine zV 15 Tryz.func159 rfl fun h=>X0 10 rfl (qi (t:=10) hF rfl ?_ ?_)<;>intro hF
 ·exact X0 9 rfl (rb h hF rfl)
 exact X0 6 rfl (rb h hF rfl)
def qh4 (_:Nat) (s cutset:ByteArray):Option ByteArray :=
 if s.size≤9223372036854775807∧cutset.size<4294967281∧cutset.data.toList.all (fun b=>decide (b.toNat<128))=true then some ⟨(Lib.trimS s.data.toList cutset.data.toList).toArray⟩ else none
theorem qpq {s cutset:ByteArray} {r:ByteArray} (hF:qh4 n s cutset=some r):RetV Tryz.prog 246 [.string s,.string cutset] w r:=by
 unfold qh4 at hF
 split at hF
 ·rename_i hh
  obtain rfl:=qb hF
  refine (Tryz.strings_Trim_any s cutset w hh.1 hh.2.1 hh.2.2).mono ?_
  rintro e w' ⟨rfl,hB⟩
  exact ⟨_,rfl,hB,[.string _],rfl,qyx _ _⟩
 cases hF
def qga (_:Nat) (s:ByteArray) (c:(IntK .u8)):Option Int :=
 some (Lib.indexByte s.data.toList c.val.toNat.toUInt8)
theorem qmv {s:ByteArray} {c:(IntK .u8)} {r:Int} (hF:qga n s c=some r):RetV Tryz.prog 247 [.string s,.int .u8 c.val] w r:=by
 obtain rfl:=qb hF
 refine (Tryz.strings_IndexByte s c.val w).mono ?_
 rintro e w' ⟨rfl,rfl⟩
 exact ⟨_,rfl,Below.refl _ _,[.int .i64 _],rfl,qvL _ _⟩
def qhJ (n:Nat) (s:ByteArray):Option Bool :=
 (qaG n (s.size:Int) 1 8).bind fun r1 =>
 bif r1 then
  (qh4 n s (⟨#[97,98,99,100,101,102,103,104,105,106,107,108,109,110,111,112,113,114,115,116,117,118,119,120,121,122,48,49,50,51,52,53,54,55,56,57]⟩:ByteArray)).bind fun r2 =>
  bif (r2.toList==(⟨#[]⟩:ByteArray).toList) then
   (atS s 0).bind fun y1 =>
   (qga n (⟨#[97,98,99,100,101,102,103,104,105,106,107,108,109,110,111,112,113,114,115,116,117,118,119,120,121,122]⟩:ByteArray) (⟨y1⟩:IntK .u8)).bind fun r3 =>
   some (decide (r3 ≥ 0))
  else
   some false
 else
  some false
theorem qkr {s:ByteArray}  {r:Bool} (hF:qhJ n s=some r):RetV Tryz.prog 214 [.string s] w r:=by
 refine zV 17 Tryz.func214 rfl fun h=>X0 8 rfl (zcB h hF qav rfl fun r1 w1 h hF=>zp1 rfl (qi (t:=6) hF rfl ?_ ?_))<;>intro hF
 ·refine X0 3 rfl (zcS h hF qpq rfl fun r2 w2 h hF=>X0 4 rfl (qi (t:=11) hF rfl ?_ ?_))<;>intro hF
  ·refine X0 3 rfl ?_
   obtain ⟨y1,hx1,hF⟩:=qc hF
   have g1:=qmH hx1
   exact r_v (qmV qa g1 rfl rfl rfl rfl) rfl (X0 1 rfl (zcI h hF qmv rfl fun r3 w3 h hF=>X0 5 rfl (rb h hF rfl)))
  exact X0 7 rfl (rb h hF rfl)
 exact X0 12 rfl (rb h hF rfl)
def qbQ (s:(List ByteArray)) (v:ByteArray):Nat→Int→Option (Flow Int Int)
 | 0,_=>none
 | n+1,i1 =>
  bif decide (i1<(s.length:Int)) then
   (idx s i1).bind fun y1 =>
   bif (v.toList==y1.toList) then some (.ret i1) else
   qbQ s v n (W64 (i1+1))
  else
   some (.nxt i1)
def qe3 (n:Nat) (s:(List ByteArray)) (v:ByteArray):Option Int :=
 (qbQ s v n 0).bind fun o=>match o with
 | .ret r=>some r
 | .nxt _ =>
  some (-1)
theorem qlW {s:(List ByteArray)} {v:ByteArray} (ha1:GoT.R w (old w) s cs1) {r:Int} (hF:qe3 n s v=some r):RetV Tryz.prog 296 [GoT.v (List ByteArray) cs1,.string v] w r:=by
 obtain ⟨p1,k1,rfl,s1⟩:=ha1
 refine zV 19 Tryz.func296 rfl fun h=>X0 11 rfl ?_
 obtain ⟨o1,hF,hK1⟩:=qc hF
 refine ql (rL (fun m e w'=>∃ (i1:Int),qbQ s v m i1=some o1∧e=[(0,.slice p1 s.length k1),(1,.string v),(7,.int .i64 (s.length:Int)),(8,.int .i64 i1)]∧SH w w' []) n ⟨_,hF,rfl,h⟩ rfl ?_)
 rintro m1 e1 w1 ⟨i1,hF,rfl,h⟩
 rcases m1 with _|m1
 ·cases hF
 refine X0 5 rfl (qh rfl hF ?_ ?_)<;>intro hF
 ·refine X0 13 rfl ?_
  obtain ⟨y1,hy1,hF,he1,b1,_,q1,cs2,hp1,hq1,rfl,hc2⟩:=s1.ix hF
  refine zxe hp1 hq1 he1 rfl (zc 0 (hc2.below h.below) rfl (X0 2 rfl (qh rfl hF ?_ ?_)))<;>intro hF
  ·refine X0 5 rfl ?_
   obtain rfl:=qb hF;replace hF:=hK1
   exact ri h hF rfl
  exact X0 6 rfl (rK ⟨_,hF,rfl,h⟩ rfl)
 refine qu rfl ?_
 obtain rfl:=qb hF;replace hF:=hK1
 exact X0 4 rfl (ri h hF rfl)
def qdK (n:Nat) (s:(List ByteArray)) (v:ByteArray):Option Bool :=
 (qe3 n s v).bind fun r1 =>
 some (decide (r1 ≥ 0))
theorem qkx {s:(List ByteArray)} {v:ByteArray} (ha1:GoT.R w (old w) s cs1) {r:Bool} (hF:qdK n s v=some r):RetV Tryz.prog 283 [GoT.v (List ByteArray) cs1,.string v] w r:=by
 obtain ⟨p1,k1,rfl,s1⟩:=ha1
 exact zV 9 Tryz.func283 rfl fun h=>X0 8 rfl (zcI h hF (qlW ⟨_,_,rfl,(h.oldS s1)⟩) rfl fun r1 w1 h hF=>X0 3 rfl (rb h hF rfl))
def qdW (list:(List ByteArray)):Nat→Int→Option (Flow Bool Int)
 | 0,_=>none
 | n+1,i1 =>
  bif decide (i1<(list.length:Int)) then
   (idx list i1).bind fun y1 =>
   (qhJ n y1).bind fun r1 =>
   bif (!r1) then some (.ret false) else
   (subS list 0 i1).bind fun x1 =>
   (qdK n x1 y1).bind fun r2 =>
   bif r2 then some (.ret false) else
   qdW list n (W64 (i1+1))
  else
   some (.nxt i1)
def qdV (n:Nat) (list:(List ByteArray)):Option Bool :=
 (qdW list n 0).bind fun o=>match o with
 | .ret r=>some r
 | .nxt _ =>
  some true
theorem qfd {list:(List ByteArray)} (ha1:GoT.R w (old w) list cs1) {r:Bool} (hF:qdV n list=some r):RetV Tryz.prog 265 [GoT.v (List ByteArray) cs1] w r:=by
 obtain ⟨p1,k1,rfl,s1⟩:=ha1
 refine zV 23 Tryz.func265 rfl fun h=>X0 11 rfl ?_
 obtain ⟨o1,hF,hK1⟩:=qc hF
 refine ql (rL (fun m e w'=>∃ (i1:Int),qdW list m i1=some o1∧e=[(0,.slice p1 list.length k1),(5,.slice p1 list.length k1),(6,.int .i64 (list.length:Int)),(7,.int .i64 i1)]∧SH w w' []) n ⟨_,hF,rfl,h⟩ rfl ?_)
 rintro m1 e1 w1 ⟨i1,hF,rfl,h⟩
 rcases m1 with _|m1
 ·cases hF
 refine X0 5 rfl (qh rfl hF ?_ ?_)<;>intro hF
 ·refine X0 6 rfl ?_
  obtain ⟨y1,hy1,hF,he1,b1,_,q1,cs2,hp1,hq1,rfl,hc2⟩:=s1.ix hF
  refine zxe hp1 hq1 he1 rfl (zc 0 (hc2.below h.below) rfl (X0 6 rfl (zcB h hF qkr rfl fun r1 w2 h hF=>zp2 rfl (qi (t:=15) hF rfl ?_ ?_))))<;>intro hF
  ·refine X0 7 rfl (qbW rfl rfl (X0 4 rfl ?_))
   obtain rfl:=qb hF;replace hF:=hK1
   exact rb h hF rfl
  refine X0 5 rfl ?_
  obtain ⟨x1,hx1,hF⟩:=qc hF
  obtain ⟨p2,k2,hp2,hk1,hl1,g1⟩:=qwx (h.oldS s1) hx1
  refine r_v (qtd qa rfl rfl rfl (qwM g1 rfl) hp2 hk1 hl1 rfl rfl rfl rfl) rfl ?_
  have s2:=qwo s1 hx1 hp2 hk1
  refine X0 3 rfl (zcB h hF (qkx ⟨_,_,rfl,(h.oldS s2)⟩) rfl fun r2 w3 h hF=>X0 2 rfl (qh rfl hF ?_ ?_))<;>intro hF
  ·refine X0 4 rfl ?_
   obtain rfl:=qb hF;replace hF:=hK1
   exact rb h hF rfl
  exact X0 6 rfl (rK ⟨_,hF,rfl,h⟩ rfl)
 refine qu rfl ?_
 obtain rfl:=qb hF;replace hF:=hK1
 exact X0 4 rfl (rb h hF rfl)
def qck (_:Nat) (list:(List qaq)):Option Int :=
 some (list.length:Int)
theorem qhI {list:(List qaq)} (ha1:GoT.R w (old w) list cs1) {r:Int} (hF:qck n list=some r):RetV Tryz.prog 290 [GoT.v (List qaq) cs1] w r:=by
 obtain ⟨p1,k1,rfl,s1⟩:=ha1
 exact zV 5 Tryz.func290 rfl fun h=>X0 10 rfl (ri h hF rfl)
def qcS (list:(List qaq)):Nat→(List ByteArray)→Int→Option (Flow Bool ((List ByteArray) × Int))
 | 0,_,_=>none
 | n+1,x1,i1 =>
  bif decide (i1<(list.length:Int)) then
   (idx list i1).bind fun y1 =>
   (appS x1 ([y1.Bb]:List ByteArray)).bind fun x2 =>
   bif (i1==(W64 ((list.length:Int)-1))) then
    bif (y1.Bv != 2) then some (.ret false) else
    bif (y1.Bt != 0) then some (.ret false) else
    bif y1.Bq then some (.ret false) else
    qcS list n x2 (W64 (i1+1))
   else
    bif (y1.Bv != 1) then some (.ret false) else
    (qaG n y1.Bt 0 500).bind fun r1 =>
    bif (!r1) then some (.ret false) else
    qcS list n x2 (W64 (i1+1))
  else
   some (.nxt (x1,i1))
def qjJ (n:Nat) (list:(List qaq)):Option Bool :=
 (qcS list n ([]:List ByteArray) 0).bind fun o=>match o with
 | .ret r=>some r
 | .nxt (x1,_) =>
  (qck n list).bind fun r2 =>
  (qaG n r2 2 5).bind fun r3 =>
  bif r3 then
   (qdV n x1).bind fun r4 =>
   some r4
  else
   some false
theorem qpk {list:(List qaq)} (ha1:GoT.R w (old w) list cs1) {r:Bool} (hF:qjJ n list=some r):RetV Tryz.prog 280 [GoT.v (List qaq) cs1] w r:=by
 obtain ⟨p1,k1,rfl,s1⟩:=ha1
 refine zV 52 Tryz.func280 rfl fun h=>X0 15 rfl ?_
 replace h:=h.nil (α:=ByteArray)
 obtain ⟨o1,hF,hK1⟩:=qc hF
 refine ql (rL (fun m e w'=>∃ (S1:Nat→Prop) (p2:Option Addr) (ln1:Nat) (k2:Nat) (x1:(List ByteArray)) (i1:Int),qcS list m x1 i1=some o1∧e=[(0,.slice p1 list.length k1),(3,.slice p2 ln1 k2),(6,.slice p1 list.length k1),(7,.int .i64 (list.length:Int)),(8,.int .i64 i1)]∧SH w w' [Ch.own S1 (x1:List ByteArray) [.slice p2 ln1 k2]]) n ⟨_,_,_,_,_,_,hF,rfl,h⟩ rfl ?_)
 rintro m1 e1 w1 ⟨S1,p2,ln1,k2,x1,i1,hF,rfl,h⟩
 obtain rfl:=(h.sl 0 rfl).2
 rcases m1 with _|m1
 ·cases hF
 refine X0 5 rfl (qh rfl hF ?_ ?_)<;>intro hF
 ·refine X0 6 rfl ?_
  obtain ⟨y1,hy1,hF,he1,b1,_,q1,cs2,hp1,hq1,hr1,hc2⟩:=s1.ix hF
  obtain rfl:=qbq hr1
  refine zxe hp1 hq1 he1 rfl (zc 0 (hc2.below h.below) rfl (qm qa h rfl rfl rfl fun w2 bb1 h=>zp1 rfl (zs 0 h rfl fun w3 h=>X1 6 0 h rfl (qK qa [.tmp 15] _ ([y1.Bb]:List ByteArray) h rfl rfl rfl rfl rfl rfl rfl rfl rfl ⟨rfl,trivial⟩ rfl fun w4 p3 S2 h=>?_))))
  obtain ⟨x2,hx1,hF⟩:=qc hF
  obtain ⟨g1,hx1⟩:=qay hx1
  refine qcE qa 2 h rfl (h.sl 0 rfl).1 (h.sl 0 rfl).2 rfl rfl rfl rfl rfl rfl rfl rfl rfl g1 hx1 rfl fun w5 p4 k3 S3 h=>X0 10 rfl (qh rfl hF ?_ ?_)<;>intro hF
  ·refine X1 6 1 h rfl (qi (t:=26) hF rfl ?_ ?_)<;>intro hF
   ·refine X0 9 rfl (qbW rfl rfl (X0 4 rfl ?_))
    obtain rfl:=qb hF;replace hF:=hK1
    exact rb h hF rfl
   refine X1 8 1 h rfl (qi (t:=31) hF rfl ?_ ?_)<;>intro hF
   ·refine X0 4 rfl (qbW rfl rfl (X0 4 rfl ?_))
    obtain rfl:=qb hF;replace hF:=hK1
    exact rb h hF rfl
   refine X1 6 1 h rfl (qh rfl hF ?_ ?_)<;>intro hF
   ·refine X0 4 rfl ?_
    obtain rfl:=qb hF;replace hF:=hK1
    exact rb h hF rfl
   refine X0 6 rfl ?_
   replace h:=h.pick [2] rfl
   exact rK ⟨_,_,_,_,_,_,hF,rfl,h⟩ rfl
  refine X1 6 1 h rfl (qi (t:=38) hF rfl ?_ ?_)<;>intro hF
  ·refine X0 6 rfl (qbW rfl rfl (X0 4 rfl ?_))
   obtain rfl:=qb hF;replace hF:=hK1
   exact rb h hF rfl
  refine X1 5 1 h rfl (zcB h hF qav rfl fun r1 w6 h hF=>X0 4 rfl (qh rfl hF ?_ ?_))<;>intro hF
  ·refine X0 4 rfl ?_
   obtain rfl:=qb hF;replace hF:=hK1
   exact rb h hF rfl
  refine X0 6 rfl ?_
  replace h:=h.pick [2] rfl
  exact rK ⟨_,_,_,_,_,_,hF,rfl,h⟩ rfl
 refine qu rfl ?_
 obtain rfl:=qb hF;replace hF:=hK1
 refine X0 3 rfl (zcI h hF (qhI ⟨_,_,rfl,(h.oldS s1)⟩) rfl fun r2 w7 h hF=>zcB h hF qav rfl fun r3 w8 h hF=>zp1 rfl (qi (t:=48) hF rfl ?_ ?_))<;>intro hF
 ·exact X0 3 rfl (zcB h hF (qfd (h.own 0 rfl)) rfl fun r4 w9 h hF=>X0 3 rfl (rb h hF rfl))
 exact X0 5 rfl (rb h hF rfl)
def qdX (n:Nat) (c:qB):Option Int :=
 (qck n c.Be).bind fun r1 =>
 some (W64 (r1-1))
theorem qgZ {c:qB} (ha1:GoT.R w (old w) c cs1) {r:Int} (hF:qdX n c=some r):RetV Tryz.prog 294 [GoT.v qB cs1] w r:=by
 obtain ⟨p1,k1,p2,k2,p3,k3,rfl,s1,s2,s3⟩:=qac ha1
 exact zV 7 Tryz.func294 rfl fun h=>zSR (qt h rfl rfl fun w1 bb1 h=>X1 6 0 h rfl (zcI h hF (qhI ⟨_,_,rfl,(h.oldS s1)⟩) rfl fun r1 w2 h hF=>X0 3 rfl (ri h hF rfl)))
def qjx (_:Nat) (kind:Int):Option Bool :=
 bif (kind==4) then some true else
 some (kind==5)
theorem qpt {kind:Int}  {r:Bool} (hF:qjx n kind=some r):RetV Tryz.prog 301 [.int .i64 kind] w r:=by
 refine zV 9 Tryz.func301 rfl fun h=>X0 9 rfl (qi (t:=5) hF rfl ?_ ?_)<;>intro hF
 ·exact X0 5 rfl (rb h hF rfl)
 exact X0 7 rfl (rb h hF rfl)
def qgL (n:Nat) (a_n:Int) (v0:Int) (v1:Int):Option Bool :=
 (qaG n a_n v0 v1).bind fun r1 =>
 some (!r1)
theorem qnq {a_n:Int} {v0:Int} {v1:Int} {p1:Option Addr} (ha1:GoT.R w (old w) (some v0) [.pointer p1]) {p2:Option Addr} (ha2:GoT.R w (old w) (some v1) [.pointer p2]) {r:Bool} (hF:qgL n a_n v0 v1=some r):RetV Tryz.prog 158 [.int .i64 a_n,.pointer p1,.pointer p2] w r:=by
 obtain ⟨b1,o_1,cs1,rfl,-,hr1,hc1⟩:=PtR.get ha1 rfl
 obtain rfl:=hr1
 obtain ⟨b2,o_2,cs2,rfl,-,hr2,hc2⟩:=PtR.get ha2 rfl
 obtain rfl:=hr2
 exact zV 10 Tryz.func158 rfl fun h=>X0 7 rfl (zc 0 (hc1.below h.below) rfl (zc 0 (hc2.below h.below) rfl (zcB h hF qav rfl fun r1 w1 h hF=>X0 3 rfl (rb h hF rfl))))
def qad (s:(List Int)) (f_0:Int) (f_1:Int):Nat→Int→Option (Flow Int Int)
 | 0,_=>none
 | n+1,i1 =>
  bif decide (i1<(s.length:Int)) then
   (idx s i1).bind fun y1 =>
   (qgL n y1 f_0 f_1).bind fun r1 =>
   bif r1 then some (.ret i1) else
   qad s f_0 f_1 n (W64 (i1+1))
  else
   some (.nxt i1)
def qaR (n:Nat) (s:(List Int)) (f_0:Int) (f_1:Int):Option Int :=
 (qad s f_0 f_1 n 0).bind fun o=>match o with
 | .ret r=>some r
 | .nxt _ =>
  some (-1)
theorem qfs {s:(List Int)} {f_0:Int} {f_1:Int} (ha1:GoT.R w (old w) s cs1) {p2:Option Addr} (ha2:GoT.R w (old w) (some f_0) [.pointer p2]) {p3:Option Addr} (ha3:GoT.R w (old w) (some f_1) [.pointer p3]) {r:Int} (hF:qaR n s f_0 f_1=some r):RetV Tryz.prog 162 [GoT.v (List Int) cs1,.func (.func 158) #[] #[.pointer p2,.pointer p3]] w r:=by
 obtain ⟨p1,k1,rfl,s1⟩:=ha1
 obtain ⟨b1,o_1,cs2,rfl,-,hr1,hc1⟩:=PtR.get ha2 rfl
 obtain rfl:=hr1
 obtain ⟨b2,o_2,cs3,rfl,-,hr2,hc2⟩:=PtR.get ha3 rfl
 obtain rfl:=hr2
 refine zV 19 Tryz.func162 rfl fun h=>X0 11 rfl ?_
 obtain ⟨o1,hF,hK1⟩:=qc hF
 refine ql (rL (fun m e w'=>∃ (i1:Int),qad s f_0 f_1 m i1=some o1∧e=[(0,.slice p1 s.length k1),(1,.func (.func 158) #[] #[.pointer (some ⟨b1,o_1,none⟩),.pointer (some ⟨b2,o_2,none⟩)]),(7,.int .i64 (s.length:Int)),(8,.int .i64 i1)]∧SH w w' []) n ⟨_,hF,rfl,h⟩ rfl ?_)
 rintro m1 e1 w1 ⟨i1,hF,rfl,h⟩
 rcases m1 with _|m1
 ·cases hF
 refine X0 5 rfl (qh rfl hF ?_ ?_)<;>intro hF
 ·refine X0 13 rfl ?_
  obtain ⟨y1,hy1,hF,he1,b3,_,q1,cs4,hp1,hq1,rfl,hc4⟩:=s1.ix hF
  refine zxe hp1 hq1 he1 rfl (zc 0 (hc4.below h.below) rfl (zcB h hF (qnq (h.old ha2) (h.old ha3)) rfl fun r1 w2 h hF=>qcw (qh rfl hF ?_ ?_)))<;>intro hF
  ·refine X0 5 rfl ?_
   obtain rfl:=qb hF;replace hF:=hK1
   exact ri h hF rfl
  exact X0 6 rfl (rK ⟨_,hF,rfl,h⟩ rfl)
 refine qu rfl ?_
 obtain rfl:=qb hF;replace hF:=hK1
 exact X0 4 rfl (ri h hF rfl)
def qbr (n:Nat) (s:(List Int)) (f_0:Int) (f_1:Int):Option Bool :=
 (qaR n s f_0 f_1).bind fun r1 =>
 some (decide (r1 ≥ 0))
theorem qe1 {s:(List Int)} {f_0:Int} {f_1:Int} (ha1:GoT.R w (old w) s cs1) {p2:Option Addr} (ha2:GoT.R w (old w) (some f_0) [.pointer p2]) {p3:Option Addr} (ha3:GoT.R w (old w) (some f_1) [.pointer p3]) {r:Bool} (hF:qbr n s f_0 f_1=some r):RetV Tryz.prog 110 [GoT.v (List Int) cs1,.func (.func 158) #[] #[.pointer p2,.pointer p3]] w r:=by
 obtain ⟨p1,k1,rfl,s1⟩:=ha1
 obtain ⟨b1,o_1,cs2,rfl,-,hr1,hc1⟩:=PtR.get ha2 rfl
 obtain rfl:=hr1
 obtain ⟨b2,o_2,cs3,rfl,-,hr2,hc2⟩:=PtR.get ha3 rfl
 obtain rfl:=hr2
 exact zV 9 Tryz.func110 rfl fun h=>X0 8 rfl (zcI h hF (qfs ⟨_,_,rfl,(h.oldS s1)⟩ (h.old ha2) (h.old ha3)) rfl fun r1 w1 h hF=>X0 3 rfl (rb h hF rfl))
def qbH (n:Nat) (list:(List Int)) (low:Int) (high:Int):Option Bool :=
 (qbr n list low high).bind fun r1 =>
 some (!r1)
theorem qb2 {list:(List Int)} {low:Int} {high:Int} (ha1:GoT.R w (old w) list cs1) {r:Bool} (hF:qbH n list low high=some r):RetV Tryz.prog 106 [GoT.v (List Int) cs1,.int .i64 low,.int .i64 high] w r:=by
 obtain ⟨p1,k1,rfl,s1⟩:=ha1
 exact zV 11 Tryz.func106 rfl fun h=>zSR (qt h rfl rfl fun w1 bb1 h=>qt h rfl rfl fun w2 bb2 h=>X0 6 rfl (zcB h hF (qe1 ⟨_,_,rfl,(h.oldS s1)⟩ (qgn (x:=low) 1 h rfl rfl) (qgn (x:=high) 0 h rfl rfl)) rfl fun r1 w3 h hF=>X0 3 rfl (rb h hF rfl)))
def qbl (_:Nat) (list:(List Int)):Option Int :=
 some (list.length:Int)
theorem qco {list:(List Int)} (ha1:GoT.R w (old w) list cs1) {r:Int} (hF:qbl n list=some r):RetV Tryz.prog 217 [GoT.v (List Int) cs1] w r:=by
 obtain ⟨p1,k1,rfl,s1⟩:=ha1
 exact zV 5 Tryz.func217 rfl fun h=>X0 10 rfl (ri h hF rfl)
def qbp (list:(List Int)):Nat→Int→Option (Flow Bool Int)
 | 0,_=>none
 | n+1,i1 =>
  bif decide (i1<(list.length:Int)) then
   (idx list (W64 (i1-1))).bind fun y1 =>
   (idx list i1).bind fun y2 =>
   bif decide (y1 ≥ y2) then some (.ret false) else
   qbp list n (W64 (i1+1))
  else
   some (.nxt i1)
def qeR (n:Nat) (list:(List Int)):Option Bool :=
 (qbp list n 1).bind fun o=>match o with
 | .ret r=>some r
 | .nxt _ =>
  some true
theorem qi8 {list:(List Int)} (ha1:GoT.R w (old w) list cs1) {r:Bool} (hF:qeR n list=some r):RetV Tryz.prog 223 [GoT.v (List Int) cs1] w r:=by
 obtain ⟨p1,k1,rfl,s1⟩:=ha1
 refine zV 20 Tryz.func223 rfl fun h=>X0 9 rfl ?_
 obtain ⟨o1,hF,hK1⟩:=qc hF
 refine ql (rL (fun m e w'=>∃ (i1:Int),qbp list m i1=some o1∧e=[(0,.slice p1 list.length k1),(3,.int .i64 i1)]∧SH w w' []) n ⟨_,hF,rfl,h⟩ rfl ?_)
 rintro m1 e1 w1 ⟨i1,hF,rfl,h⟩
 rcases m1 with _|m1
 ·cases hF
 refine X0 8 rfl (qh rfl hF ?_ ?_)<;>intro hF
 ·refine X0 4 rfl (rD (zd3 rfl ?_))
  obtain ⟨y1,hy1,hF,he1,b1,_,q1,cs2,hp1,hq1,rfl,hc2⟩:=s1.ix hF
  refine zdxe hp1 hq1 he1 rfl (zdc 0 (hc2.below h.below) rfl (zd2 rfl ?_))
  obtain ⟨y2,hy2,hF,he2,b2,_,q2,cs3,hp2,hq2,rfl,hc3⟩:=s1.ix hF
  refine zdxe hp2 hq2 he2 rfl (zdc 0 (hc3.below h.below) rfl (zd1 rfl (dN h fun w2 h=>qh rfl hF ?_ ?_)))<;>intro hF
  ·refine X0 4 rfl ?_
   obtain rfl:=qb hF;replace hF:=hK1
   exact rb h hF rfl
  exact X0 7 rfl (rK ⟨_,hF,rfl,h⟩ rfl)
 refine qu rfl ?_
 obtain rfl:=qb hF;replace hF:=hK1
 exact X0 4 rfl (rb h hF rfl)
def qja (n:Nat) (list:(List Int)):Option Bool :=
 (qbl n list).bind fun r1 =>
 (qaG n r1 1 4).bind fun r2 =>
 bif r2 then
  (qbH n list 0 100000).bind fun r3 =>
  bif r3 then
   (qeR n list).bind fun r4 =>
   some r4
  else
   some false
 else
  some false
theorem qmB {list:(List Int)} (ha1:GoT.R w (old w) list cs1) {r:Bool} (hF:qja n list=some r):RetV Tryz.prog 318 [GoT.v (List Int) cs1] w r:=by
 obtain ⟨p1,k1,rfl,s1⟩:=ha1
 refine zV 14 Tryz.func318 rfl fun h=>X0 7 rfl (zcI h hF (qco ⟨_,_,rfl,(h.oldS s1)⟩) rfl fun r1 w1 h hF=>zcB h hF qav rfl fun r2 w2 h hF=>zp1 rfl (qi (t:=6) hF rfl ?_ ?_))<;>intro hF
 ·refine X0 3 rfl (zcB h hF (qb2 ⟨_,_,rfl,(h.oldS s1)⟩) rfl fun r3 w3 h hF=>zp2 rfl (qi (t:=10) hF rfl ?_ ?_))<;>intro hF
  ·exact X0 3 rfl (zcB h hF (qi8 ⟨_,_,rfl,(h.oldS s1)⟩) rfl fun r4 w4 h hF=>X0 3 rfl (rb h hF rfl))
  exact X0 5 rfl (rb h hF rfl)
 exact X0 9 rfl (rb h hF rfl)
def qjQ (n:Nat) (t:qv):Option Bool :=
 (qja n t.Bm).bind fun r1 =>
 bif r1 then
  (qja n t.Bj).bind fun r2 =>
  bif r2 then
   bif ((t.Bh.length:Int)==(W64 ((t.Bm.length:Int)*(t.Bj.length:Int)))) then
    (qbH n t.Bh (-1000000) 1000000).bind fun r3 =>
    some r3
   else
    some false
  else
   some false
 else
  some false
theorem qpB {t:qv} (ha1:GoT.R w (old w) t cs1) {r:Bool} (hF:qjQ n t=some r):RetV Tryz.prog 313 [GoT.v qv cs1] w r:=by
 obtain ⟨p1,k1,p2,k2,p3,k3,rfl,s1,s2,s3⟩:=qaD ha1
 refine zV 29 Tryz.func313 rfl fun h=>zSR (qt h rfl rfl fun w1 bb1 h=>X1 6 0 h rfl (zcB h hF (qmB ⟨_,_,rfl,(h.oldS s1)⟩) rfl fun r1 w2 h hF=>zp1 rfl (qi (t:=6) hF rfl ?_ ?_)))<;>intro hF
 ·refine X1 5 0 h rfl (zcB h hF (qmB ⟨_,_,rfl,(h.oldS s2)⟩) rfl fun r2 w3 h hF=>zp2 rfl (qi (t:=11) hF rfl ?_ ?_))<;>intro hF
  ·refine X3 24 0 0 0 h rfl (qi (t:=24) hF rfl ?_ ?_)<;>intro hF
   ·exact X1 5 0 h rfl (zcB h hF (qb2 ⟨_,_,rfl,(h.oldS s3)⟩) rfl fun r3 w4 h hF=>X0 3 rfl (rb h hF rfl))
   exact X0 6 rfl (rb h hF rfl)
  exact X0 19 rfl (rb h hF rfl)
 exact X0 24 rfl (rb h hF rfl)
def qcK (x:(List Int)):Nat→Int→Int→Option (Int × Int)
 | 0,_,_=>none
 | n+1,i1,i2 =>
  bif decide (i2<(x.length:Int)) then
   (idx x i2).bind fun y2 =>
   qcK x n (if y2<i1 then y2 else i1) (W64 (i2+1))
  else
   some (i1,i2)
def qgB (n:Nat) (x:(List Int)):Option Int :=
 (
  bif decide ((x.length:Int)<1) then none else
  some ()).bind fun _ =>
 (idx x 0).bind fun y1 =>
 (qcK x n y1 1).bind fun o=>match o with
 | (i1,_) =>
  some i1
theorem qnl {x:(List Int)} (ha1:GoT.R w (old w) x cs1) {r:Int} (hF:qgB n x=some r):RetV Tryz.prog 314 [GoT.v (List Int) cs1] w r:=by
 obtain ⟨p1,k1,rfl,s1⟩:=ha1
 refine zV 25 Tryz.func314 rfl fun h=>X0 11 rfl ?_
 obtain ⟨KF1,hKF1,o2,hF,hK2⟩:=bindE hF
 refine qbm (fun e w'=>KF1 ()=some r∧e=[(0,.slice p1 x.length k1)]∧SH w w' []) ?_ ?_
 ·refine qh rfl hF ?_ ?_<;>intro hF
  ·refine qlh ?_
   cases hF
  refine qhA ?_
  obtain rfl:=qb hF
  exact rG ⟨hK2,rfl,h⟩ rfl
 rintro e2 w2 ⟨hF,rfl,h⟩
 subst hKF1
 refine X0 3 rfl ?_
 obtain ⟨y1,hy1,hF,he1,b1,_,q1,cs2,hp1,hq1,rfl,hc1⟩:=s1.ix hF
 refine zxe hp1 hq1 he1 rfl (zc 0 (hc1.below h.below) rfl (X0 7 rfl ?_))
 obtain ⟨o1,hF,hK1⟩:=qc hF
 refine ql (rL (fun m e w'=>∃ (i1:Int) (i2:Int),qcK x m i1 i2=some o1∧e=[(0,.slice p1 x.length k1),(3,.int .i64 i1),(4,.int .i64 i2)]∧SH w w' []) n ⟨_,_,hF,rfl,h⟩ rfl ?_)
 rintro m1 e1 w1 ⟨i1,i2,hF,rfl,h⟩
 rcases m1 with _|m1
 ·cases hF
 refine X0 8 rfl (qh rfl hF ?_ ?_)<;>intro hF
 ·refine X0 7 rfl ?_
  obtain ⟨y2,hy2,hF,he2,b2,_,q2,cs3,hp2,hq2,rfl,hc3⟩:=s1.ix hF
  exact zxe hp2 hq2 he2 rfl (zc 0 (hc3.below h.below) rfl (X0 9 rfl (rK ⟨_,_,hF,rfl,h⟩ rfl)))
 refine qu rfl ?_
 obtain rfl:=qb hF;replace hF:=hK1
 exact X0 5 rfl (ri h hF rfl)
def qgS (n:Nat) (t:qv) (v0:Bool):Option Bool :=
 (qjQ n t).bind fun r1 =>
 bif (!r1) then some true else
 bif v0 then
  (qgB n t.Bh).bind fun r2 =>
  some (decide (r2<0))
 else
  some false
theorem qnh {t:qv} {v0:Bool} (ha1:GoT.R w (old w) t cs1) {p4:Option Addr} (ha2:GoT.R w (old w) (some v0) [.pointer p4]) {r:Bool} (hF:qgS n t v0=some r):RetV Tryz.prog 312 [GoT.v qv cs1,.pointer p4] w r:=by
 obtain ⟨p1,k1,p2,k2,p3,k3,rfl,s1,s2,s3⟩:=qaD ha1
 obtain ⟨b1,o_1,cs2,rfl,-,hr1,hc1⟩:=PtR.get ha2 rfl
 obtain rfl:=hr1
 refine zV 16 Tryz.func312 rfl fun h=>zSR (qt h rfl rfl fun w1 bb1 h=>X1 5 0 h rfl (zcB h hF (qpB (h.old ha1)) rfl fun r1 w2 h hF=>zp2 rfl (qi (t:=7) hF rfl ?_ ?_)))<;>intro hF
 ·exact X0 10 rfl (rb h hF rfl)
 refine X0 1 rfl (zc 0 (hc1.below h.below) rfl (X0 2 rfl (qi (t:=9) hF rfl ?_ ?_)))<;>intro hF
 ·exact X1 5 0 h rfl (zcI h hF (qnl ⟨_,_,rfl,(h.oldS s3)⟩) rfl fun r2 w3 h hF=>X0 7 rfl (rb h hF rfl))
 exact X0 9 rfl (rb h hF rfl)
def qM (s:(List qv)) (f_0:Bool):Nat→Int→Option (Flow Int Int)
 | 0,_=>none
 | n+1,i1 =>
  bif decide (i1<(s.length:Int)) then
   (idx s i1).bind fun y1 =>
   (qgS n y1 f_0).bind fun r1 =>
   bif r1 then some (.ret i1) else
   qM s f_0 n (W64 (i1+1))
  else
   some (.nxt i1)
def qaC (n:Nat) (s:(List qv)) (f_0:Bool):Option Int :=
 (qM s f_0 n 0).bind fun o=>match o with
 | .ret r=>some r
 | .nxt _ =>
  some (-1)
theorem qeL {s:(List qv)} {f_0:Bool} (ha1:GoT.R w (old w) s cs1) {p2:Option Addr} (ha2:GoT.R w (old w) (some f_0) [.pointer p2]) {r:Int} (hF:qaC n s f_0=some r):RetV Tryz.prog 317 [GoT.v (List qv) cs1,.func (.func 312) #[] #[.pointer p2]] w r:=by
 obtain ⟨p1,k1,rfl,s1⟩:=ha1
 obtain ⟨b1,o_1,cs2,rfl,-,hr1,hc1⟩:=PtR.get ha2 rfl
 obtain rfl:=hr1
 refine zV 19 Tryz.func317 rfl fun h=>X0 11 rfl ?_
 obtain ⟨o1,hF,hK1⟩:=qc hF
 refine ql (rL (fun m e w'=>∃ (i1:Int),qM s f_0 m i1=some o1∧e=[(0,.slice p1 s.length k1),(1,.func (.func 312) #[] #[.pointer (some ⟨b1,o_1,none⟩)]),(7,.int .i64 (s.length:Int)),(8,.int .i64 i1)]∧SH w w' []) n ⟨_,hF,rfl,h⟩ rfl ?_)
 rintro m1 e1 w1 ⟨i1,hF,rfl,h⟩
 rcases m1 with _|m1
 ·cases hF
 refine X0 5 rfl (qh rfl hF ?_ ?_)<;>intro hF
 ·refine X0 13 rfl ?_
  obtain ⟨y1,hy1,hF,he1,b2,_,q1,cs3,hp1,hq1,hr2,hc3⟩:=s1.ix hF
  obtain ⟨p3,k2,p4,k3,p5,k4,rfl,s2,s3,s4⟩:=qaD hr2
  refine zxe hp1 hq1 he1 rfl (zc 0 (hc3.below h.below) rfl (zcB h hF (qnh (qeT y1 (h.oldS s2) (h.oldS s3) (h.oldS s4)) (h.old ha2)) rfl fun r1 w2 h hF=>qcw (qh rfl hF ?_ ?_)))<;>intro hF
  ·refine X0 5 rfl ?_
   obtain rfl:=qb hF;replace hF:=hK1
   exact ri h hF rfl
  exact X0 6 rfl (rK ⟨_,hF,rfl,h⟩ rfl)
 refine qu rfl ?_
 obtain rfl:=qb hF;replace hF:=hK1
 exact X0 4 rfl (ri h hF rfl)
def qaT (n:Nat) (s:(List qv)) (f_0:Bool):Option Bool :=
 (qaC n s f_0).bind fun r1 =>
 some (decide (r1 ≥ 0))
theorem qeg {s:(List qv)} {f_0:Bool} (ha1:GoT.R w (old w) s cs1) {p2:Option Addr} (ha2:GoT.R w (old w) (some f_0) [.pointer p2]) {r:Bool} (hF:qaT n s f_0=some r):RetV Tryz.prog 311 [GoT.v (List qv) cs1,.func (.func 312) #[] #[.pointer p2]] w r:=by
 obtain ⟨p1,k1,rfl,s1⟩:=ha1
 obtain ⟨b1,o_1,cs2,rfl,-,hr1,hc1⟩:=PtR.get ha2 rfl
 obtain rfl:=hr1
 exact zV 9 Tryz.func311 rfl fun h=>X0 8 rfl (zcI h hF (qeL ⟨_,_,rfl,(h.oldS s1)⟩ (h.old ha2)) rfl fun r1 w1 h hF=>X0 3 rfl (rb h hF rfl))
def qe5 (n:Nat) (list:(List qv)) (positive:Bool):Option Bool :=
 bif ((list.length:Int)==2) then
  (qaT n list positive).bind fun r1 =>
  some (!r1)
 else
  some false
theorem qim {list:(List qv)} {positive:Bool} (ha1:GoT.R w (old w) list cs1) {r:Bool} (hF:qe5 n list positive=some r):RetV Tryz.prog 302 [GoT.v (List qv) cs1,.bool positive] w r:=by
 obtain ⟨p1,k1,rfl,s1⟩:=ha1
 refine zV 14 Tryz.func302 rfl fun h=>zSR (qt h rfl rfl fun w1 bb1 h=>X0 8 rfl (qi (t:=8) hF rfl ?_ ?_))<;>intro hF
 ·exact X0 5 rfl (zcB h hF (qeg ⟨_,_,rfl,(h.oldS s1)⟩ (qgn (x:=positive) 0 h rfl rfl)) rfl fun r1 w2 h hF=>X0 5 rfl (rb h hF rfl))
 exact X0 7 rfl (rb h hF rfl)
def qin (_:Nat) (p:qaq):Option Bool :=
 some p.Bq
theorem qmC {p:qaq} (ha1:GoT.R w (old w) p cs1) {r:Bool} (hF:qin n p=some r):RetV Tryz.prog 316 [GoT.v qaq cs1] w r:=by
 obtain rfl:=qbq ha1
 exact zV 5 Tryz.func316 rfl fun h=>zSR (qt h rfl rfl fun w1 bb1 h=>X1 8 0 h rfl (rb h hF rfl))
def qR (s:(List qaq)):Nat→Int→Option (Flow Int Int)
 | 0,_=>none
 | n+1,i1 =>
  bif decide (i1<(s.length:Int)) then
   (idx s i1).bind fun y1 =>
   (qin n y1).bind fun r1 =>
   bif r1 then some (.ret i1) else
   qR s n (W64 (i1+1))
  else
   some (.nxt i1)
def qbn (n:Nat) (s:(List qaq)):Option Int :=
 (qR s n 0).bind fun o=>match o with
 | .ret r=>some r
 | .nxt _ =>
  some (-1)
theorem qeX {s:(List qaq)} (ha1:GoT.R w (old w) s cs1) {r:Int} (hF:qbn n s=some r):RetV Tryz.prog 315 [GoT.v (List qaq) cs1,.func (.func 316) #[] #[]] w r:=by
 obtain ⟨p1,k1,rfl,s1⟩:=ha1
 refine zV 19 Tryz.func315 rfl fun h=>X0 11 rfl ?_
 obtain ⟨o1,hF,hK1⟩:=qc hF
 refine ql (rL (fun m e w'=>∃ (i1:Int),qR s m i1=some o1∧e=[(0,.slice p1 s.length k1),(1,.func (.func 316) #[] #[]),(7,.int .i64 (s.length:Int)),(8,.int .i64 i1)]∧SH w w' []) n ⟨_,hF,rfl,h⟩ rfl ?_)
 rintro m1 e1 w1 ⟨i1,hF,rfl,h⟩
 rcases m1 with _|m1
 ·cases hF
 refine X0 5 rfl (qh rfl hF ?_ ?_)<;>intro hF
 ·refine X0 13 rfl ?_
  obtain ⟨y1,hy1,hF,he1,b1,_,q1,cs2,hp1,hq1,hr1,hc2⟩:=s1.ix hF
  obtain rfl:=qbq hr1
  refine zxe hp1 hq1 he1 rfl (zc 0 (hc2.below h.below) rfl (zcB h hF (qmC (qi1 y1)) rfl fun r1 w2 h hF=>qcw (qh rfl hF ?_ ?_)))<;>intro hF
  ·refine X0 5 rfl ?_
   obtain rfl:=qb hF;replace hF:=hK1
   exact ri h hF rfl
  exact X0 6 rfl (rK ⟨_,hF,rfl,h⟩ rfl)
 refine qu rfl ?_
 obtain rfl:=qb hF;replace hF:=hK1
 exact X0 4 rfl (ri h hF rfl)
def qhl (n:Nat) (c:qB):Option Int :=
 (qbn n c.Be).bind fun r1 =>
 some r1
theorem qnL {c:qB} (ha1:GoT.R w (old w) c cs1) {r:Int} (hF:qhl n c=some r):RetV Tryz.prog 303 [GoT.v qB cs1] w r:=by
 obtain ⟨p1,k1,p2,k2,p3,k3,rfl,s1,s2,s3⟩:=qac ha1
 exact zV 6 Tryz.func303 rfl fun h=>zSR (qt h rfl rfl fun w1 bb1 h=>X1 6 0 h rfl (zcI h hF (qeX ⟨_,_,rfl,(h.oldS s1)⟩) rfl fun r1 w2 h hF=>X0 2 rfl (ri h hF rfl)))
def qf9 (n:Nat) (c:qB) (pin:Int):Option Bool :=
 (qdX n c).bind fun r1 =>
 (qaG n pin 0 (W64 (r1-1))).bind fun r2 =>
 some r2
theorem qjg {c:qB} {pin:Int} (ha1:GoT.R w (old w) c cs1) {r:Bool} (hF:qf9 n c pin=some r):RetV Tryz.prog 304 [GoT.v qB cs1,.int .i64 pin] w r:=by
 obtain ⟨p1,k1,p2,k2,p3,k3,rfl,s1,s2,s3⟩:=qac ha1
 exact zV 10 Tryz.func304 rfl fun h=>zSR (qt h rfl rfl fun w1 bb1 h=>X1 6 0 h rfl (zcI h hF (qgZ (h.old ha1)) rfl fun r1 w2 h hF=>zp1 rfl (zcB h hF qav rfl fun r2 w3 h hF=>X0 2 rfl (rb h hF rfl))))
end Go.Fw


namespace Go.Fw
open Go Go.Proofs
open Go.RowKit (Below)
set_option maxRecDepth 100000
set_option maxHeartbeats 1600000
variable {n:Nat} {w:World} {cs1 cs2 cs3 cs4 cs5 cs6 cs7 cs8 cs9:List Value}
def qhs (n:Nat) (a_0:qB) (a_1:qP):Option Bool :=
 (qjx n a_1.Bf).bind fun r1 =>
 bif r1 then
  (
   bif (a_1.Bn==0) then
    bif ((a_1.Bc.length:Int)==0) then
     (qe5 n a_1.Bp false).bind fun r2 =>
     bif r2 then
      (qhl n a_0).bind fun r3 =>
      bif (a_1.Bk==r3) then
       bif decide (a_1.Bk ≥ 0) then
        (qf9 n a_0 a_1.To).bind fun r4 =>
        bif r4 then some (a_1.To != a_1.Bk) else
        some false
       else
        some false
      else
       some false
     else
      some false
    else
     some false
   else
    some false).bind fun b1 =>
  some b1
 else
  (
   (qe5 n a_1.Bp true).bind fun r6 =>
   bif (!r6) then some true else
   (qe5 n a_1.Bc true).bind fun r7 =>
   bif (!r7) then some true else
   (qdX n a_0).bind fun r8 =>
   bif (a_1.To != r8) then some true else
   (qf9 n a_0 a_1.Bk).bind fun r9 =>
   some (!r9)).bind fun b2 =>
  bif b2 then some false else
  bif (a_1.Bf==1) then
   (idx a_0.Be a_1.Bk).bind fun y1 =>
   bif (!y1.Bq) then
    (qaG n a_1.Bn 1 3).bind fun r5 =>
    some r5
   else
    some false
  else
   (
    bif (a_1.Bf==2) then some (a_1.Bf==2) else
    some (a_1.Bf==3)).bind fun b4 =>
   bif b4 then
    (idx a_0.Be a_1.Bk).bind fun y2 =>
    bif y2.Bq then some (a_1.Bn==0) else
    some false
   else
    some false
theorem qnD {a_0:qB} {a_1:qP} (ha1:GoT.R w (old w) a_0 cs1) (ha2:GoT.R w (old w) a_1 cs2) {r:Bool} (hF:qhs n a_0 a_1=some r):RetV Tryz.prog 291 [GoT.v qB cs1,GoT.v qP cs2] w r:=by
 obtain ⟨p1,k1,p2,k2,p3,k3,rfl,s1,s2,s3⟩:=qac ha1
 obtain ⟨p4,k4,p5,k5,rfl,s4,s5⟩:=qag ha2
 refine zV 103 Tryz.func291 rfl fun h=>zSR (qt h rfl rfl fun w1 bb1 h=>qt h rfl rfl fun w2 bb2 h=>X1 7 0 h rfl (zcB h hF qpt rfl fun r1 w3 h hF=>qcw (qh rfl hF ?_ ?_)))<;>intro hF
 ·refine qcv ?_
  obtain ⟨KF1,hKF1,o1,hF,hK1⟩:=bindE hF
  refine qbm (fun e w'=>∃ (b1:Bool),KF1 b1=some r∧e=[(4,.bool b1)]∧SH w w' []) ?_ ?_
  ·refine rD (Y1 2 0 h rfl ?_)
   refine zd2 rfl (qaJ (t:=11) hF rfl ?_ ?_)<;>intro hF
   ·refine Y1 4 0 h rfl ?_
    refine Y0 6 rfl (qaJ (t:=17) hF rfl ?_ ?_)<;>intro hF
    ·refine Y1 4 0 h rfl ?_
     refine Y0 1 rfl ?_
     obtain ⟨r2,hr2,hF⟩:=qc hF
     refine qaO r2 (vsB _) (cB 302 rfl) (fun _ hb=>qim ⟨_,_,rfl,((h.ext hb).oldS s4)⟩ hr2) rfl rfl rfl rfl (zd2 rfl (qaJ (t:=22) hF rfl ?_ ?_))<;>intro hF
     ·refine Y1 4 0 h rfl ?_
      refine Y1 2 1 h rfl ?_
      refine Y0 1 rfl ?_
      obtain ⟨r3,hr3,hF⟩:=qc hF
      refine qaO r3 (vsI _) (cB 303 rfl) (fun _ hb=>qnL ((h.ext hb).old ha1) hr3) rfl rfl rfl rfl (Y0 4 rfl (qaJ (t:=29) hF rfl ?_ ?_))<;>intro hF
      ·refine Y1 4 0 h rfl ?_
       refine Y0 4 rfl (qaJ (t:=34) hF rfl ?_ ?_)<;>intro hF
       ·refine Y1 2 1 h rfl ?_
        refine Y1 4 0 h rfl ?_
        refine Y0 1 rfl ?_
        obtain ⟨r4,hr4,hF⟩:=qc hF
        refine qaO r4 (vsB _) (cB 304 rfl) (fun _ hb=>qjg ((h.ext hb).old ha1) hr4) rfl rfl rfl rfl (zd2 rfl (qaJ (t:=40) hF rfl ?_ ?_))<;>intro hF
        ·refine Y1 4 0 h rfl ?_
         refine Y1 4 0 h rfl ?_
         refine Y0 4 rfl (dN h fun w4 h=>?_)
         replace h:=h.pick [] rfl
         obtain rfl:=qb hF
         exact rG ⟨_,hK1,rfl,h⟩ rfl
        refine Y0 7 rfl (dN h fun w5 h=>?_)
        replace h:=h.pick [] rfl
        obtain rfl:=qb hF
        exact rG ⟨_,hK1,rfl,h⟩ rfl
       refine Y0 13 rfl (dN h fun w6 h=>?_)
       replace h:=h.pick [] rfl
       obtain rfl:=qb hF
       exact rG ⟨_,hK1,rfl,h⟩ rfl
      refine Y0 18 rfl (dN h fun w7 h=>?_)
      replace h:=h.pick [] rfl
      obtain rfl:=qb hF
      exact rG ⟨_,hK1,rfl,h⟩ rfl
     refine Y0 25 rfl (dN h fun w8 h=>?_)
     replace h:=h.pick [] rfl
     obtain rfl:=qb hF
     exact rG ⟨_,hK1,rfl,h⟩ rfl
    refine Y0 30 rfl (dN h fun w9 h=>?_)
    replace h:=h.pick [] rfl
    obtain rfl:=qb hF
    exact rG ⟨_,hK1,rfl,h⟩ rfl
   refine Y0 36 rfl (dN h fun w10 h=>?_)
   replace h:=h.pick [] rfl
   obtain rfl:=qb hF
   exact rG ⟨_,hK1,rfl,h⟩ rfl
  rintro e1 w11 ⟨b1,hF,rfl,h⟩
  subst hKF1
  exact rb h hF rfl
 refine zKSS ?_
 obtain ⟨KF3,hKF3,o3,hF,hK3⟩:=bindE hF
 refine qbm (fun e w'=>∃ (b2:Bool),KF3 b2=some r∧e=[(2,.pointer (some ⟨bb1,0,none⟩)),(3,.pointer (some ⟨bb2,0,none⟩)),(70,.bool b2)]∧SH w w' [Ch.box bb2 (qgo a_1 p4 p5 k4 k5) 173,Ch.box bb1 (qdQ a_0 p1 p2 p3 k1 k2 k3) 168]) ?_ ?_
 ·refine rD (Y1 2 0 h rfl ?_)
  obtain ⟨r6,hr8,hF⟩:=qc hF
  refine qaO r6 (vsB _) (cB 302 rfl) (fun _ hb=>qim ⟨_,_,rfl,((h.ext hb).oldS s4)⟩ hr8) rfl rfl rfl rfl (zd2 rfl (qaJ (t:=51) hF rfl ?_ ?_))<;>intro hF
  ·refine Y0 19 rfl (dN h fun w14 h=>?_)
   obtain rfl:=qb hF
   exact rG ⟨_,hK3,rfl,h⟩ rfl
  refine Y1 4 0 h rfl ?_
  refine Y0 1 rfl ?_
  obtain ⟨r7,hr9,hF⟩:=qc hF
  refine qaO r7 (vsB _) (cB 302 rfl) (fun _ hb=>qim ⟨_,_,rfl,((h.ext hb).oldS s5)⟩ hr9) rfl rfl rfl rfl (Y0 4 rfl (qaJ (t:=57) hF rfl ?_ ?_))<;>intro hF
  ·refine Y0 13 rfl (dN h fun w15 h=>?_)
   obtain rfl:=qb hF
   exact rG ⟨_,hK3,rfl,h⟩ rfl
  refine Y1 4 0 h rfl ?_
  refine Y1 2 1 h rfl ?_
  refine Y0 1 rfl ?_
  obtain ⟨r8,hr10,hF⟩:=qc hF
  refine qaO r8 (vsI _) (cB 294 rfl) (fun _ hb=>qgZ ((h.ext hb).old ha1) hr10) rfl rfl rfl rfl (Y0 4 rfl (qaJ (t:=64) hF rfl ?_ ?_))<;>intro hF
  ·refine Y0 6 rfl (dN h fun w16 h=>?_)
   obtain rfl:=qb hF
   exact rG ⟨_,hK3,rfl,h⟩ rfl
  refine Y1 2 1 h rfl ?_
  refine Y1 4 0 h rfl ?_
  refine Y0 1 rfl ?_
  obtain ⟨r9,hr11,hF⟩:=qc hF
  refine qaO r9 (vsB _) (cB 304 rfl) (fun _ hb=>qjg ((h.ext hb).old ha1) hr11) rfl rfl rfl rfl (Y0 3 rfl (dN h fun w17 h=>?_))
  obtain rfl:=qb hF
  exact rG ⟨_,hK3,rfl,h⟩ rfl
 rintro e3 w18 ⟨b2,hF,rfl,h⟩
 subst hKF3
 refine qh rfl hF ?_ ?_<;>intro hF
 ·exact X0 4 rfl (rb h hF rfl)
 refine X1 13 0 h rfl (qh rfl hF ?_ ?_)<;>intro hF
 ·refine X2 6 1 0 h rfl ?_
  obtain ⟨y1,hy1,hF,he1,b3,_,q1,cs3,hp1,hq1,hr5,hc4⟩:=s1.ix hF
  obtain rfl:=qbq hr5
  refine zxe hp1 hq1 he1 rfl (zp1 rfl (zc 3 (hc4.below h.below) rfl (zp2 rfl (qi (t:=83) hF rfl ?_ ?_))))<;>intro hF
  ·exact X1 5 0 h rfl (zcB h hF qav rfl fun r5 w12 h hF=>X0 3 rfl (rb h hF rfl))
  exact X0 6 rfl (rb h hF rfl)
 refine X0 6 rfl ?_
 obtain ⟨KF2,hKF2,o2,hF,hK2⟩:=bindE hF
 refine qbm (fun e w'=>∃ (b4:Bool),KF2 b4=some r∧e=[(2,.pointer (some ⟨bb1,0,none⟩)),(3,.pointer (some ⟨bb2,0,none⟩)),(88,.bool b4)]∧SH w w' [Ch.box bb2 (qgo a_1 p4 p5 k4 k5) 173,Ch.box bb1 (qdQ a_0 p1 p2 p3 k1 k2 k3) 168]) ?_ ?_
 ·refine qh rfl hF ?_ ?_<;>intro hF
  ·refine qhA ?_
   obtain rfl:=qb hF
   exact rG ⟨_,hK2,rfl,h⟩ rfl
  refine X0 4 rfl ?_
  obtain rfl:=qb hF
  exact rG ⟨_,hK2,rfl,h⟩ rfl
 rintro e2 w13 ⟨b4,hF,rfl,h⟩
 subst hKF2
 refine qh rfl hF ?_ ?_<;>intro hF
 ·refine X2 6 1 0 h rfl ?_
  obtain ⟨y2,hy2,hF,he2,b5,_,q2,cs4,hp2,hq2,hr7,hc6⟩:=s1.ix hF
  obtain rfl:=qbq hr7
  refine zxe hp2 hq2 he2 rfl (zp1 rfl (zc 3 (hc6.below h.below) rfl (zp1 rfl (qi (t:=98) hF rfl ?_ ?_))))<;>intro hF
  ·exact X1 9 0 h rfl (rb h hF rfl)
  exact X0 6 rfl (rb h hF rfl)
 exact X0 6 rfl (rb h hF rfl)
def qe2 (_:Nat) (a_o:qP) (v0:qP):Option Bool :=
 bif (a_o.Bf==v0.Bf) then
  bif (a_o.Bk==v0.Bk) then some (a_o.To==v0.To) else
  some false
 else
  some false
theorem ql6 {a_o:qP} {v0:qP} (ha1:GoT.R w (old w) a_o cs1) {p3:Option Addr} (ha2:GoT.R w (old w) (some v0) [.pointer p3]) {r:Bool} (hF:qe2 n a_o v0=some r):RetV Tryz.prog 293 [GoT.v qP cs1,.pointer p3] w r:=by
 obtain ⟨p1,k1,p2,k2,rfl,s1,s2⟩:=qag ha1
 obtain ⟨b1,o_1,cs2,rfl,-,hr1,hc1⟩:=PtR.get ha2 rfl
 obtain ⟨p4,k3,p5,k4,rfl,s3,s4⟩:=qag hr1
 refine zV 23 Tryz.func293 rfl fun h=>zSR (qt h rfl rfl fun w1 bb1 h=>X1 7 0 h rfl (zc 0 (hc1.below h.below) rfl (zp2 rfl (qi (t:=9) hF rfl ?_ ?_))))<;>intro hF
 ·refine X1 7 0 h rfl (zc 1 (hc1.below h.below) rfl (X0 4 rfl (qi (t:=16) hF rfl ?_ ?_)))<;>intro hF
  ·exact X1 7 0 h rfl (zc 2 (hc1.below h.below) rfl (X0 5 rfl (rb h hF rfl)))
  exact X0 8 rfl (rb h hF rfl)
 exact X0 15 rfl (rb h hF rfl)
def qI (s:(List qP)) (f_0:qP):Nat→Int→Option (Flow Int Int)
 | 0,_=>none
 | n+1,i1 =>
  bif decide (i1<(s.length:Int)) then
   (idx s i1).bind fun y1 =>
   (qe2 n y1 f_0).bind fun r1 =>
   bif r1 then some (.ret i1) else
   qI s f_0 n (W64 (i1+1))
  else
   some (.nxt i1)
def qa3 (n:Nat) (s:(List qP)) (f_0:qP):Option Int :=
 (qI s f_0 n 0).bind fun o=>match o with
 | .ret r=>some r
 | .nxt _ =>
  some (-1)
theorem qeo {s:(List qP)} {f_0:qP} (ha1:GoT.R w (old w) s cs1) {p2:Option Addr} (ha2:GoT.R w (old w) (some f_0) [.pointer p2]) {r:Int} (hF:qa3 n s f_0=some r):RetV Tryz.prog 305 [GoT.v (List qP) cs1,.func (.func 293) #[] #[.pointer p2]] w r:=by
 obtain ⟨p1,k1,rfl,s1⟩:=ha1
 obtain ⟨b1,o_1,cs2,rfl,-,hr1,hc1⟩:=PtR.get ha2 rfl
 obtain ⟨p3,k2,p4,k3,rfl,s2,s3⟩:=qag hr1
 refine zV 19 Tryz.func305 rfl fun h=>X0 11 rfl ?_
 obtain ⟨o1,hF,hK1⟩:=qc hF
 refine ql (rL (fun m e w'=>∃ (i1:Int),qI s f_0 m i1=some o1∧e=[(0,.slice p1 s.length k1),(1,.func (.func 293) #[] #[.pointer (some ⟨b1,o_1,none⟩)]),(7,.int .i64 (s.length:Int)),(8,.int .i64 i1)]∧SH w w' []) n ⟨_,hF,rfl,h⟩ rfl ?_)
 rintro m1 e1 w1 ⟨i1,hF,rfl,h⟩
 rcases m1 with _|m1
 ·cases hF
 refine X0 5 rfl (qh rfl hF ?_ ?_)<;>intro hF
 ·refine X0 13 rfl ?_
  obtain ⟨y1,hy1,hF,he1,b2,_,q1,cs3,hp1,hq1,hr2,hc3⟩:=s1.ix hF
  obtain ⟨p5,k4,p6,k5,rfl,s4,s5⟩:=qag hr2
  refine zxe hp1 hq1 he1 rfl (zc 0 (hc3.below h.below) rfl (zcB h hF (ql6 (qfo y1 (h.oldS s4) (h.oldS s5)) (h.old ha2)) rfl fun r1 w2 h hF=>qcw (qh rfl hF ?_ ?_)))<;>intro hF
  ·refine X0 5 rfl ?_
   obtain rfl:=qb hF;replace hF:=hK1
   exact ri h hF rfl
  exact X0 6 rfl (rK ⟨_,hF,rfl,h⟩ rfl)
 refine qu rfl ?_
 obtain rfl:=qb hF;replace hF:=hK1
 exact X0 4 rfl (ri h hF rfl)
def qau (n:Nat) (s:(List qP)) (f_0:qP):Option Bool :=
 (qa3 n s f_0).bind fun r1 =>
 some (decide (r1 ≥ 0))
theorem qd4 {s:(List qP)} {f_0:qP} (ha1:GoT.R w (old w) s cs1) {p2:Option Addr} (ha2:GoT.R w (old w) (some f_0) [.pointer p2]) {r:Bool} (hF:qau n s f_0=some r):RetV Tryz.prog 292 [GoT.v (List qP) cs1,.func (.func 293) #[] #[.pointer p2]] w r:=by
 obtain ⟨p1,k1,rfl,s1⟩:=ha1
 obtain ⟨b1,o_1,cs2,rfl,-,hr1,hc1⟩:=PtR.get ha2 rfl
 obtain ⟨p3,k2,p4,k3,rfl,s2,s3⟩:=qag hr1
 exact zV 9 Tryz.func292 rfl fun h=>X0 8 rfl (zcI h hF (qeo ⟨_,_,rfl,(h.oldS s1)⟩ (h.old ha2)) rfl fun r1 w1 h hF=>X0 3 rfl (rb h hF rfl))
def qcl (c:qB):Nat→Int→Option (Flow Bool Int)
 | 0,_=>none
 | n+1,i1 =>
  bif decide (i1<(c.Au.length:Int)) then
   (idx c.Au i1).bind fun y1 =>
   (qhs n c y1).bind fun r1 =>
   bif (!r1) then some (.ret false) else
   (subS c.Au 0 i1).bind fun x1 =>
   (qau n x1 y1).bind fun r2 =>
   bif r2 then some (.ret false) else
   qcl c n (W64 (i1+1))
  else
   some (.nxt i1)
def qf7 (n:Nat) (c:qB):Option Bool :=
 (qcl c n 0).bind fun o=>match o with
 | .ret r=>some r
 | .nxt _ =>
  some (decide ((c.Au.length:Int)≤8))
theorem qmD {c:qB} (ha1:GoT.R w (old w) c cs1) {r:Bool} (hF:qf7 n c=some r):RetV Tryz.prog 281 [GoT.v qB cs1] w r:=by
 obtain ⟨p1,k1,p2,k2,p3,k3,rfl,s1,s2,s3⟩:=qac ha1
 refine zV 30 Tryz.func281 rfl fun h=>zSR (qt h rfl rfl fun w1 bb1 h=>X1 10 0 h rfl ?_)
 obtain ⟨o1,hF,hK1⟩:=qc hF
 refine ql (rL (fun m e w'=>∃ (i1:Int),qcl c m i1=some o1∧e=[(1,.pointer (some ⟨bb1,0,none⟩)),(6,.slice p2 c.Au.length k2),(7,.int .i64 (c.Au.length:Int)),(8,.int .i64 i1)]∧SH w w' [Ch.box bb1 (qdQ c p1 p2 p3 k1 k2 k3) 168]) n ⟨_,hF,rfl,h⟩ rfl ?_)
 rintro m1 e1 w2 ⟨i1,hF,rfl,h⟩
 rcases m1 with _|m1
 ·cases hF
 refine X0 5 rfl (qh rfl hF ?_ ?_)<;>intro hF
 ·refine X0 6 rfl ?_
  obtain ⟨y1,hy1,hF,he1,b1,_,q1,cs2,hp1,hq1,hr1,hc2⟩:=s2.ix hF
  obtain ⟨p4,k4,p5,k5,rfl,s4,s5⟩:=qag hr1
  refine zxe hp1 hq1 he1 rfl (zc 0 (hc2.below h.below) rfl (qm qa h rfl rfl rfl fun w3 bb2 h=>zp1 rfl (zs 0 h rfl fun w4 h=>X2 5 1 0 h rfl (zcB h hF (qnD (h.old ha1) (qfo y1 (h.oldS s4) (h.oldS s5))) rfl fun r1 w5 h hF=>zp2 rfl (qi (t:=17) hF rfl ?_ ?_)))))<;>intro hF
  ·refine X0 8 rfl (qbW rfl rfl (X0 4 rfl ?_))
   obtain rfl:=qb hF;replace hF:=hK1
   exact rb h hF rfl
  refine X1 7 1 h rfl ?_
  obtain ⟨x1,hx1,hF⟩:=qc hF
  obtain ⟨p6,k6,hp2,hk1,hl1,g1⟩:=qwx (h.oldS s2) hx1
  refine r_v (qtd qa rfl rfl rfl (qwM g1 rfl) hp2 hk1 hl1 rfl rfl rfl rfl) rfl ?_
  have s6:=qwo s2 hx1 hp2 hk1
  refine X0 3 rfl (zcB h hF (qd4 ⟨_,_,rfl,(h.oldS s6)⟩ (qgn (x:=y1) 0 h rfl (qfo y1 (h.oldS s4) (h.oldS s5)))) rfl fun r2 w6 h hF=>X0 2 rfl (qh rfl hF ?_ ?_))<;>intro hF
  ·refine X0 4 rfl ?_
   obtain rfl:=qb hF;replace hF:=hK1
   exact rb h hF rfl
  refine X0 6 rfl ?_
  replace h:=h.pick [1] rfl
  exact rK ⟨_,hF,rfl,h⟩ rfl
 refine qu rfl ?_
 obtain rfl:=qb hF;replace hF:=hK1
 exact X1 8 0 h rfl (rb h hF rfl)
def qjr (_:Nat) (a:qP) (v0:Int):Option Bool :=
 some (a.Bf==v0)
theorem qnI {a:qP} {v0:Int} (ha1:GoT.R w (old w) a cs1) {p3:Option Addr} (ha2:GoT.R w (old w) (some v0) [.pointer p3]) {r:Bool} (hF:qjr n a v0=some r):RetV Tryz.prog 306 [GoT.v qP cs1,.pointer p3] w r:=by
 obtain ⟨p1,k1,p2,k2,rfl,s1,s2⟩:=qag ha1
 obtain ⟨b1,o_1,cs2,rfl,-,hr1,hc1⟩:=PtR.get ha2 rfl
 obtain rfl:=hr1
 exact zV 8 Tryz.func306 rfl fun h=>zSR (qt h rfl rfl fun w1 bb1 h=>X1 6 0 h rfl (zc 0 (hc1.below h.below) rfl (X0 3 rfl (rb h hF rfl))))
def qZ (s:(List qP)) (f_0:Int):Nat→Int→Option (Flow Int Int)
 | 0,_=>none
 | n+1,i1 =>
  bif decide (i1<(s.length:Int)) then
   (idx s i1).bind fun y1 =>
   (qjr n y1 f_0).bind fun r1 =>
   bif r1 then some (.ret i1) else
   qZ s f_0 n (W64 (i1+1))
  else
   some (.nxt i1)
def qbt (n:Nat) (s:(List qP)) (f_0:Int):Option Int :=
 (qZ s f_0 n 0).bind fun o=>match o with
 | .ret r=>some r
 | .nxt _ =>
  some (-1)
theorem qe8 {s:(List qP)} {f_0:Int} (ha1:GoT.R w (old w) s cs1) {p2:Option Addr} (ha2:GoT.R w (old w) (some f_0) [.pointer p2]) {r:Int} (hF:qbt n s f_0=some r):RetV Tryz.prog 305 [GoT.v (List qP) cs1,.func (.func 306) #[] #[.pointer p2]] w r:=by
 obtain ⟨p1,k1,rfl,s1⟩:=ha1
 obtain ⟨b1,o_1,cs2,rfl,-,hr1,hc1⟩:=PtR.get ha2 rfl
 obtain rfl:=hr1
 refine zV 19 Tryz.func305 rfl fun h=>X0 11 rfl ?_
 obtain ⟨o1,hF,hK1⟩:=qc hF
 refine ql (rL (fun m e w'=>∃ (i1:Int),qZ s f_0 m i1=some o1∧e=[(0,.slice p1 s.length k1),(1,.func (.func 306) #[] #[.pointer (some ⟨b1,o_1,none⟩)]),(7,.int .i64 (s.length:Int)),(8,.int .i64 i1)]∧SH w w' []) n ⟨_,hF,rfl,h⟩ rfl ?_)
 rintro m1 e1 w1 ⟨i1,hF,rfl,h⟩
 rcases m1 with _|m1
 ·cases hF
 refine X0 5 rfl (qh rfl hF ?_ ?_)<;>intro hF
 ·refine X0 13 rfl ?_
  obtain ⟨y1,hy1,hF,he1,b2,_,q1,cs3,hp1,hq1,hr2,hc3⟩:=s1.ix hF
  obtain ⟨p3,k2,p4,k3,rfl,s2,s3⟩:=qag hr2
  refine zxe hp1 hq1 he1 rfl (zc 0 (hc3.below h.below) rfl (zcB h hF (qnI (qfo y1 (h.oldS s2) (h.oldS s3)) (h.old ha2)) rfl fun r1 w2 h hF=>qcw (qh rfl hF ?_ ?_)))<;>intro hF
  ·refine X0 5 rfl ?_
   obtain rfl:=qb hF;replace hF:=hK1
   exact ri h hF rfl
  exact X0 6 rfl (rK ⟨_,hF,rfl,h⟩ rfl)
 refine qu rfl ?_
 obtain rfl:=qb hF;replace hF:=hK1
 exact X0 4 rfl (ri h hF rfl)
def qa9 (n:Nat) (s:(List qP)) (f_0:Int):Option Bool :=
 (qbt n s f_0).bind fun r1 =>
 some (decide (r1 ≥ 0))
theorem qeG {s:(List qP)} {f_0:Int} (ha1:GoT.R w (old w) s cs1) {p2:Option Addr} (ha2:GoT.R w (old w) (some f_0) [.pointer p2]) {r:Bool} (hF:qa9 n s f_0=some r):RetV Tryz.prog 292 [GoT.v (List qP) cs1,.func (.func 306) #[] #[.pointer p2]] w r:=by
 obtain ⟨p1,k1,rfl,s1⟩:=ha1
 obtain ⟨b1,o_1,cs2,rfl,-,hr1,hc1⟩:=PtR.get ha2 rfl
 obtain rfl:=hr1
 exact zV 9 Tryz.func292 rfl fun h=>X0 8 rfl (zcI h hF (qe8 ⟨_,_,rfl,(h.oldS s1)⟩ (h.old ha2)) rfl fun r1 w1 h hF=>X0 3 rfl (rb h hF rfl))
def qdb (n:Nat) (c:qB) (kind:Int):Option Bool :=
 (qa9 n c.Au kind).bind fun r1 =>
 some r1
theorem qd3 {c:qB} {kind:Int} (ha1:GoT.R w (old w) c cs1) {r:Bool} (hF:qdb n c kind=some r):RetV Tryz.prog 295 [GoT.v qB cs1,.int .i64 kind] w r:=by
 obtain ⟨p1,k1,p2,k2,p3,k3,rfl,s1,s2,s3⟩:=qac ha1
 exact zV 9 Tryz.func295 rfl fun h=>zSR (qt h rfl rfl fun w1 bb1 h=>qt h rfl rfl fun w2 bb2 h=>X1 7 1 h rfl (zcB h hF (qeG ⟨_,_,rfl,(h.oldS s2)⟩ (qgn (x:=kind) 0 h rfl rfl)) rfl fun r1 w3 h hF=>X0 2 rfl (rb h hF rfl)))
def qa4 (a_0:qB):Nat→Int→Int→Option (Int × Int)
 | 0,_,_=>none
 | n+1,i1,i2 =>
  bif decide (i2<(a_0.Be.length:Int)) then
   (idx a_0.Be i2).bind fun y1 =>
   bif y1.Bq then qa4 a_0 n (W64 (i1+1)) (W64 (i2+1)) else
   qa4 a_0 n i1 (W64 (i2+1))
  else
   some (i1,i2)
def qfG (n:Nat) (a_0:qB):Option Bool :=
 (qa4 a_0 n 0 0).bind fun o=>match o with
 | (i1,_) =>
  bif (a_0.Bf==1) then
   bif (i1==0) then
    (qdX n a_0).bind fun r1 =>
    (shlS 1 r1).bind fun y2 =>
    bif ((a_0.Br.length:Int)==y2) then
     (qbH n a_0.Br 0 1).bind fun r2 =>
     some r2
    else
     some false
   else
    some false
  else
   bif (a_0.Bf==2) then
    bif (i1==1) then
     bif ((a_0.Br.length:Int)==0) then
      (qdb n a_0 1).bind fun r3 =>
      bif (!r3) then
       (qdb n a_0 2).bind fun r4 =>
       (qdb n a_0 3).bind fun r5 =>
       some (!(r4==r5))
      else
       some false
     else
      some false
    else
     some false
   else
    bif (a_0.Bf==3) then
     bif (i1==1) then
      bif ((a_0.Br.length:Int)==0) then
       (qdb n a_0 1).bind fun r6 =>
       bif r6 then
        (qdb n a_0 2).bind fun r7 =>
        bif r7 then
         (qdb n a_0 3).bind fun r8 =>
         some (!r8)
        else
         some false
       else
        some false
      else
       some false
     else
      some false
    else
     some false
theorem qmp {a_0:qB} (ha1:GoT.R w (old w) a_0 cs1) {r:Bool} (hF:qfG n a_0=some r):RetV Tryz.prog 282 [GoT.v qB cs1] w r:=by
 obtain ⟨p1,k1,p2,k2,p3,k3,rfl,s1,s2,s3⟩:=qac ha1
 refine zV 83 Tryz.func282 rfl fun h=>zSR (qt h rfl rfl fun w1 bb1 h=>X1 14 0 h rfl ?_)
 obtain ⟨o1,hF,hK1⟩:=qc hF
 refine ql (rL (fun m e w'=>∃ (i1:Int) (i2:Int),qa4 a_0 m i1 i2=some o1∧e=[(1,.pointer (some ⟨bb1,0,none⟩)),(3,.int .i64 i1),(7,.slice p1 a_0.Be.length k1),(8,.int .i64 (a_0.Be.length:Int)),(9,.int .i64 i2)]∧SH w w' [Ch.box bb1 (qdQ a_0 p1 p2 p3 k1 k2 k3) 168]) n ⟨_,_,hF,rfl,h⟩ rfl ?_)
 rintro m1 e1 w2 ⟨i1,i2,hF,rfl,h⟩
 rcases m1 with _|m1
 ·cases hF
 refine X0 5 rfl (qh rfl hF ?_ ?_)<;>intro hF
 ·refine zKSBSR ?_
  obtain ⟨y1,hy1,hF,he1,b1,_,q1,cs2,hp1,hq1,hr1,hc2⟩:=s1.ix hF
  obtain rfl:=qbq hr1
  refine zxe hp1 hq1 he1 rfl (zc 0 (hc2.below h.below) rfl (qm qa h rfl rfl rfl fun w3 bb2 h=>zs 0 h rfl fun w4 h=>X1 6 0 h rfl (qh rfl hF ?_ ?_)))<;>intro hF
  ·refine X0 10 rfl ?_
   replace h:=h.pick [1] rfl
   exact rK ⟨_,_,hF,rfl,h⟩ rfl
  refine X0 6 rfl ?_
  replace h:=h.pick [1] rfl
  exact rK ⟨_,_,hF,rfl,h⟩ rfl
 refine qu rfl ?_
 obtain rfl:=qb hF;replace hF:=hK1
 refine X1 12 0 h rfl (qh rfl hF ?_ ?_)<;>intro hF
 ·refine qcv (rD (zd3 rfl (qaJ (t:=24) hF rfl ?_ ?_)))<;>intro hF
  ·refine Y1 4 0 h rfl ?_
   refine Y1 4 0 h rfl ?_
   refine Y0 1 rfl ?_
   obtain ⟨r1,hr2,hF⟩:=qc hF
   refine qaO r1 (vsI _) (cB 294 rfl) (fun _ hb=>qgZ ((h.ext hb).old ha1) hr2) rfl rfl rfl rfl (Y0 1 rfl ?_)
   obtain ⟨y2,hx1,hF⟩:=qc hF
   obtain ⟨g1,hx1⟩:=qrk hx1
   refine d_v (fun _ hb=>qxQ g1 rfl rfl) rfl ?_
   rw [hx1]
   refine Y0 4 rfl (qaJ (t:=33) hF rfl ?_ ?_)<;>intro hF
   ·refine Y1 4 0 h rfl ?_
    refine Y0 1 rfl ?_
    obtain ⟨r2,hr3,hF⟩:=qc hF
    exact qaO r2 (vsB _) (cB 106 rfl) (fun _ hb=>qb2 ⟨_,_,rfl,((h.ext hb).oldS s3)⟩ hr3) rfl rfl rfl rfl (zd2 rfl (dN h fun w5 h=>rb h hF rfl))
   exact Y0 5 rfl (dN h fun w6 h=>rb h hF rfl)
  exact Y0 14 rfl (dN h fun w7 h=>rb h hF rfl)
 refine X0 5 rfl (qh rfl hF ?_ ?_)<;>intro hF
 ·refine qcv (rD (zd3 rfl (qaJ (t:=42) hF rfl ?_ ?_)))<;>intro hF
  ·refine Y1 4 0 h rfl ?_
   refine Y0 6 rfl (qaJ (t:=48) hF rfl ?_ ?_)<;>intro hF
   ·refine Y1 2 0 h rfl ?_
    refine Y0 1 rfl ?_
    obtain ⟨r3,hr4,hF⟩:=qc hF
    refine qaO r3 (vsB _) (cB 295 rfl) (fun _ hb=>qd3 ((h.ext hb).old ha1) hr4) rfl rfl rfl rfl (Y0 4 rfl (qaJ (t:=53) hF rfl ?_ ?_))<;>intro hF
    ·refine Y1 2 0 h rfl ?_
     refine Y0 1 rfl ?_
     obtain ⟨r4,hr5,hF⟩:=qc hF
     refine qaO r4 (vsB _) (cB 295 rfl) (fun _ hb=>qd3 ((h.ext hb).old ha1) hr5) rfl rfl rfl rfl (Y1 2 0 h rfl ?_)
     refine Y0 1 rfl ?_
     obtain ⟨r5,hr6,hF⟩:=qc hF
     exact qaO r5 (vsB _) (cB 295 rfl) (fun _ hb=>qd3 ((h.ext hb).old ha1) hr6) rfl rfl rfl rfl (Y0 4 rfl (dN h fun w8 h=>rb h hF rfl))
    exact Y0 7 rfl (dN h fun w9 h=>rb h hF rfl)
   exact Y0 12 rfl (dN h fun w10 h=>rb h hF rfl)
  exact Y0 18 rfl (dN h fun w11 h=>rb h hF rfl)
 refine X0 5 rfl (qh rfl hF ?_ ?_)<;>intro hF
 ·refine X0 5 rfl (qi (t:=64) hF rfl ?_ ?_)<;>intro hF
  ·refine X1 10 0 h rfl (qi (t:=70) hF rfl ?_ ?_)<;>intro hF
   ·refine X1 3 0 h rfl (zcB h hF (qd3 (h.old ha1)) rfl fun r6 w12 h hF=>zp2 rfl (qi (t:=74) hF rfl ?_ ?_))<;>intro hF
    ·refine X1 3 0 h rfl (zcB h hF (qd3 (h.old ha1)) rfl fun r7 w13 h hF=>zp2 rfl (qi (t:=78) hF rfl ?_ ?_))<;>intro hF
     ·exact X1 3 0 h rfl (zcB h hF (qd3 (h.old ha1)) rfl fun r8 w14 h hF=>X0 5 rfl (rb h hF rfl))
     exact X0 6 rfl (rb h hF rfl)
    exact X0 10 rfl (rb h hF rfl)
   exact X0 14 rfl (rb h hF rfl)
  exact X0 20 rfl (rb h hF rfl)
 exact X0 6 rfl (rb h hF rfl)
def qkH (n:Nat) (c:qB):Option Bool :=
 (qhJ n c.Bb).bind fun r1 =>
 bif r1 then
  (qjJ n c.Be).bind fun r2 =>
  bif r2 then
   (qf7 n c).bind fun r3 =>
   bif r3 then
    (qaG n c.Ca 0 100000).bind fun r4 =>
    bif r4 then
     (qaG n c.Bu 0 100000).bind fun r5 =>
     bif r5 then
      (qfG n c).bind fun r6 =>
      some r6
     else
      some false
    else
     some false
   else
    some false
  else
   some false
 else
  some false
theorem qqr {c:qB} (ha1:GoT.R w (old w) c cs1) {r:Bool} (hF:qkH n c=some r):RetV Tryz.prog 264 [GoT.v qB cs1] w r:=by
 obtain ⟨p1,k1,p2,k2,p3,k3,rfl,s1,s2,s3⟩:=qac ha1
 refine zV 29 Tryz.func264 rfl fun h=>zSR (qt h rfl rfl fun w1 bb1 h=>X1 6 0 h rfl (zcB h hF qkr rfl fun r1 w2 h hF=>zp1 rfl (qi (t:=6) hF rfl ?_ ?_)))<;>intro hF
 ·refine X1 5 0 h rfl (zcB h hF (qpk ⟨_,_,rfl,(h.oldS s1)⟩) rfl fun r2 w3 h hF=>zp2 rfl (qi (t:=11) hF rfl ?_ ?_))<;>intro hF
  ·refine X1 3 0 h rfl (zcB h hF (qmD (h.old ha1)) rfl fun r3 w4 h hF=>zp2 rfl (qi (t:=15) hF rfl ?_ ?_))<;>intro hF
   ·refine X1 5 0 h rfl (zcB h hF qav rfl fun r4 w5 h hF=>zp2 rfl (qi (t:=20) hF rfl ?_ ?_))<;>intro hF
    ·refine X1 5 0 h rfl (zcB h hF qav rfl fun r5 w6 h hF=>zp2 rfl (qi (t:=25) hF rfl ?_ ?_))<;>intro hF
     ·exact X1 3 0 h rfl (zcB h hF (qmp (h.old ha1)) rfl fun r6 w7 h hF=>X0 3 rfl (rb h hF rfl))
     exact X0 5 rfl (rb h hF rfl)
    exact X0 10 rfl (rb h hF rfl)
   exact X0 15 rfl (rb h hF rfl)
  exact X0 19 rfl (rb h hF rfl)
 exact X0 24 rfl (rb h hF rfl)
def qct (l:qp):Nat→(List ByteArray)→Int→Option (Flow Bool ((List ByteArray) × Int))
 | 0,_,_=>none
 | n+1,x1,i1 =>
  bif decide (i1<(l.Aq.length:Int)) then
   (idx l.Aq i1).bind fun y1 =>
   (qkH n y1).bind fun r1 =>
   bif (!r1) then some (.ret false) else
   (appS x1 ([y1.Bb]:List ByteArray)).bind fun x2 =>
   qct l n x2 (W64 (i1+1))
  else
   some (.nxt (x1,i1))
def qiq (n:Nat) (l:qp):Option Bool :=
 (qct l n ([]:List ByteArray) 0).bind fun o=>match o with
 | .ret r=>some r
 | .nxt (x1,_) =>
  bif decide ((l.Aq.length:Int)≤8) then
   (qdV n x1).bind fun r2 =>
   some r2
  else
   some false
theorem qob {l:qp} (ha1:GoT.R w (old w) l cs1) {r:Bool} (hF:qiq n l=some r):RetV Tryz.prog 239 [GoT.v qp cs1] w r:=by
 obtain ⟨p1,k1,rfl,s1⟩:=qbw ha1
 refine zV 30 Tryz.func239 rfl fun h=>zSR (qt h rfl rfl fun w1 bb1 h=>X1 14 0 h rfl ?_)
 replace h:=h.nil (α:=ByteArray)
 obtain ⟨o1,hF,hK1⟩:=qc hF
 refine ql (rL (fun m e w'=>∃ (S1:Nat→Prop) (p2:Option Addr) (ln1:Nat) (k2:Nat) (x1:(List ByteArray)) (i1:Int),qct l m x1 i1=some o1∧e=[(1,.pointer (some ⟨bb1,0,none⟩)),(3,.slice p2 ln1 k2),(7,.slice p1 l.Aq.length k1),(8,.int .i64 (l.Aq.length:Int)),(9,.int .i64 i1)]∧SH w w' [Ch.own S1 (x1:List ByteArray) [.slice p2 ln1 k2],Ch.box bb1 [.slice p1 l.Aq.length k1] 44]) n ⟨_,_,_,_,_,_,hF,rfl,h⟩ rfl ?_)
 rintro m1 e1 w2 ⟨S1,p2,ln1,k2,x1,i1,hF,rfl,h⟩
 obtain rfl:=(h.sl 0 rfl).2
 rcases m1 with _|m1
 ·cases hF
 refine X0 5 rfl (qh rfl hF ?_ ?_)<;>intro hF
 ·refine zKSBSR ?_
  obtain ⟨y1,hy1,hF,he1,b1,_,q1,cs2,hp1,hq1,hr1,hc2⟩:=s1.ix hF
  obtain ⟨p3,k3,p4,k4,p5,k5,rfl,s2,s3,s4⟩:=qac hr1
  refine zxe hp1 hq1 he1 rfl (zc 0 (hc2.below h.below) rfl (qm qa h rfl rfl rfl fun w3 bb2 h=>zs 0 h rfl fun w4 h=>X1 5 0 h rfl (zcB h hF (qqr (qjV y1 (h.oldS s2) (h.oldS s3) (h.oldS s4))) rfl fun r1 w5 h hF=>X0 2 rfl (qh rfl hF ?_ ?_))))<;>intro hF
  ·refine X0 4 rfl ?_
   obtain rfl:=qb hF;replace hF:=hK1
   exact rb h hF rfl
  refine X1 5 0 h rfl (qK qa [.tmp 18] _ ([y1.Bb]:List ByteArray) h rfl rfl rfl rfl rfl rfl rfl rfl rfl ⟨rfl,trivial⟩ rfl fun w6 p6 S2 h=>?_)
  obtain ⟨x2,hx1,hF⟩:=qc hF
  obtain ⟨g1,hx1⟩:=qay hx1
  refine qcE qa 2 h rfl (h.sl 0 rfl).1 (h.sl 0 rfl).2 rfl rfl rfl rfl rfl rfl rfl rfl rfl g1 hx1 rfl fun w7 p7 k6 S3 h=>X0 7 rfl ?_
  replace h:=h.pick [2,3] rfl
  exact rK ⟨_,_,_,_,_,_,hF,rfl,h⟩ rfl
 refine qu rfl ?_
 obtain rfl:=qb hF;replace hF:=hK1
 refine X1 7 1 h rfl (qi (t:=26) hF rfl ?_ ?_)<;>intro hF
 ·exact X0 3 rfl (zcB h hF (qfd (h.own 0 rfl)) rfl fun r2 w8 h hF=>X0 3 rfl (rb h hF rfl))
 exact X0 5 rfl (rb h hF rfl)
def qbc (d:qd):Nat→(List ByteArray)→Int→Option ((List ByteArray) × Int)
 | 0,_,_=>none
 | n+1,x3,i2 =>
  bif decide (i2<(d.Aj.length:Int)) then
   (idx d.Aj i2).bind fun y2 =>
   (appS x3 ([y2.Bb]:List ByteArray)).bind fun x4 =>
   qbc d n x4 (W64 (i2+1))
  else
   some (x3,i2)
def qbf (d:qd):Nat→(List ByteArray)→Int→Option ((List ByteArray) × Int)
 | 0,_,_=>none
 | n+1,x1,i1 =>
  bif decide (i1<(d.Aa.length:Int)) then
   (idx d.Aa i1).bind fun y1 =>
   (appS x1 ([y1.Bb]:List ByteArray)).bind fun x2 =>
   qbf d n x2 (W64 (i1+1))
  else
   some (x1,i1)
def qeM (n:Nat) (d:qd):Option Bool :=
 (qbf d n ([]:List ByteArray) 0).bind fun o=>match o with
 | (x1,_) =>
  (qbc d n ([]:List ByteArray) 0).bind fun o=>match o with
  | (x3,_) =>
   bif decide ((x1.length:Int)≤14) then
    bif decide ((d.Am.length:Int)≤30) then
     bif decide ((x3.length:Int)≤8) then
      (qdV n x1).bind fun r1 =>
      bif r1 then
       (qdV n d.Am).bind fun r2 =>
       bif r2 then
        (qdV n x3).bind fun r3 =>
        some r3
       else
        some false
      else
       some false
     else
      some false
    else
     some false
   else
    some false
theorem qln {d:qd} (ha1:GoT.R w (old w) d cs1) {r:Bool} (hF:qeM n d=some r):RetV Tryz.prog 240 [GoT.v qd cs1] w r:=by
 obtain ⟨p1,k1,p2,k2,p3,k3,rfl,s1,s2,s3⟩:=qat ha1
 refine zV 62 Tryz.func240 rfl fun h=>zSR (qt h rfl rfl fun w1 bb1 h=>X1 15 0 h rfl ?_)
 replace h:=h.nil (α:=ByteArray)
 obtain ⟨o1,hF,hK1⟩:=qc hF
 refine ql (rL (fun m e w'=>∃ (S1:Nat→Prop) (p4:Option Addr) (ln1:Nat) (k4:Nat) (x1:(List ByteArray)) (i1:Int),qbf d m x1 i1=some o1∧e=[(1,.pointer (some ⟨bb1,0,none⟩)),(3,.slice p4 ln1 k4),(4,.slice none 0 0),(10,.slice p1 d.Aa.length k1),(11,.int .i64 (d.Aa.length:Int)),(12,.int .i64 i1)]∧SH w w' [Ch.own S1 (x1:List ByteArray) [.slice p4 ln1 k4],Ch.box bb1 (qaH d p1 p2 p3 k1 k2 k3) 48]) n ⟨_,_,_,_,_,_,hF,rfl,h⟩ rfl ?_)
 rintro m1 e1 w2 ⟨S1,p4,ln1,k4,x1,i1,hF,rfl,h⟩
 obtain rfl:=(h.sl 0 rfl).2
 rcases m1 with _|m1
 ·cases hF
 refine X0 5 rfl (qh rfl hF ?_ ?_)<;>intro hF
 ·refine zKSBSR ?_
  obtain ⟨y1,hy1,hF,he1,b1,_,q1,cs2,hp1,hq1,hr1,hc2⟩:=s1.ix hF
  obtain ⟨p5,k5,rfl,s4⟩:=qO hr1
  refine zxe hp1 hq1 he1 rfl (zc 0 (hc2.below h.below) rfl (qm qa h rfl rfl rfl fun w3 bb2 h=>zs 0 h rfl fun w4 h=>X1 5 0 h rfl (qK qa [.tmp 18] _ ([y1.Bb]:List ByteArray) h rfl rfl rfl rfl rfl rfl rfl rfl rfl ⟨rfl,trivial⟩ rfl fun w5 p6 S2 h=>?_)))
  obtain ⟨x2,hx1,hF⟩:=qc hF
  obtain ⟨g1,hx1⟩:=qay hx1
  refine qcE qa 2 h rfl (h.sl 0 rfl).1 (h.sl 0 rfl).2 rfl rfl rfl rfl rfl rfl rfl rfl rfl g1 hx1 rfl fun w6 p7 k6 S3 h=>X0 7 rfl ?_
  replace h:=h.pick [2,3] rfl
  exact rK ⟨_,_,_,_,_,_,hF,rfl,h⟩ rfl
 refine qu rfl ?_
 obtain rfl:=qb hF;replace hF:=hK1
 refine X1 8 1 h rfl ?_
 replace h:=h.nil (α:=ByteArray)
 obtain ⟨o2,hF,hK2⟩:=qc hF
 refine ql (rL (fun m e w'=>∃ (S4:Nat→Prop) (p8:Option Addr) (ln2:Nat) (k7:Nat) (x3:(List ByteArray)) (i2:Int),qbc d m x3 i2=some o2∧e=[(1,.pointer (some ⟨bb1,0,none⟩)),(3,.slice p4 x1.length k4),(4,.slice p8 ln2 k7),(23,.slice p3 d.Aj.length k3),(24,.int .i64 (d.Aj.length:Int)),(25,.int .i64 i2)]∧SH w w' [Ch.own S4 (x3:List ByteArray) [.slice p8 ln2 k7],Ch.own S1 (x1:List ByteArray) [.slice p4 x1.length k4],Ch.box bb1 (qaH d p1 p2 p3 k1 k2 k3) 48]) n ⟨_,_,_,_,_,_,hF,rfl,h⟩ rfl ?_)
 rintro m2 e2 w7 ⟨S4,p8,ln2,k7,x3,i2,hF,rfl,h⟩
 obtain rfl:=(h.sl 0 rfl).2
 rcases m2 with _|m2
 ·cases hF
 refine X0 5 rfl (qh rfl hF ?_ ?_)<;>intro hF
 ·refine zKSBSR ?_
  obtain ⟨y2,hy2,hF,he2,b2,_,q2,cs3,hp2,hq2,hr2,hc4⟩:=s3.ix hF
  obtain rfl:=qbj hr2
  refine zxe hp2 hq2 he2 rfl (zc 0 (hc4.below h.below) rfl (qm qa h rfl rfl rfl fun w8 bb3 h=>zs 0 h rfl fun w9 h=>X1 5 0 h rfl (qK qa [.tmp 31] _ ([y2.Bb]:List ByteArray) h rfl rfl rfl rfl rfl rfl rfl rfl rfl ⟨rfl,trivial⟩ rfl fun w10 p9 S5 h=>?_)))
  obtain ⟨x4,hx2,hF⟩:=qc hF
  obtain ⟨g2,hx2⟩:=qay hx2
  refine qcE qa 2 h rfl (h.sl 0 rfl).1 (h.sl 0 rfl).2 rfl rfl rfl rfl rfl rfl rfl rfl rfl g2 hx2 rfl fun w11 p10 k8 S6 h=>X0 7 rfl ?_
  replace h:=h.pick [2,3,4] rfl
  exact rK ⟨_,_,_,_,_,_,hF,rfl,h⟩ rfl
 refine qu rfl ?_
 obtain rfl:=qb hF;replace hF:=hK2
 refine X0 6 rfl (qi (t:=38) hF rfl ?_ ?_)<;>intro hF
 ·refine X1 10 2 h rfl (qi (t:=44) hF rfl ?_ ?_)<;>intro hF
  ·refine X0 8 rfl (qi (t:=49) hF rfl ?_ ?_)<;>intro hF
   ·refine X0 3 rfl (zcB h hF (qfd (h.own 1 rfl)) rfl fun r1 w12 h hF=>zp2 rfl (qi (t:=53) hF rfl ?_ ?_))<;>intro hF
    ·refine X1 5 2 h rfl (zcB h hF (qfd ⟨_,_,rfl,(h.oldS s2)⟩) rfl fun r2 w13 h hF=>zp2 rfl (qi (t:=58) hF rfl ?_ ?_))<;>intro hF
     ·exact X0 3 rfl (zcB h hF (qfd (h.own 0 rfl)) rfl fun r3 w14 h hF=>X0 3 rfl (rb h hF rfl))
     exact X0 5 rfl (rb h hF rfl)
    exact X0 10 rfl (rb h hF rfl)
   exact X0 14 rfl (rb h hF rfl)
  exact X0 19 rfl (rb h hF rfl)
 exact X0 25 rfl (rb h hF rfl)
def qf4 (_:Nat) (list:(List qB)):Option Int :=
 some (list.length:Int)
theorem qk7 {list:(List qB)} (ha1:GoT.R w (old w) list cs1) {r:Int} (hF:qf4 n list=some r):RetV Tryz.prog 266 [GoT.v (List qB) cs1] w r:=by
 obtain ⟨p1,k1,rfl,s1⟩:=ha1
 exact zV 5 Tryz.func266 rfl fun h=>X0 10 rfl (ri h hF rfl)
def qhx (_:Nat) (list:(List ByteArray)):Option Int :=
 some (list.length:Int)
theorem qmm {list:(List ByteArray)} (ha1:GoT.R w (old w) list cs1) {r:Int} (hF:qhx n list=some r):RetV Tryz.prog 268 [GoT.v (List ByteArray) cs1] w r:=by
 obtain ⟨p1,k1,rfl,s1⟩:=ha1
 exact zV 5 Tryz.func268 rfl fun h=>X0 10 rfl (ri h hF rfl)
def qdp (n:Nat) (d:qd) (net:Int):Option Bool :=
 (qhx n d.Am).bind fun r1 =>
 (qaG n net 0 (W64 (r1-1))).bind fun r2 =>
 some r2
theorem qgp {d:qd} {net:Int} (ha1:GoT.R w (old w) d cs1) {r:Bool} (hF:qdp n d net=some r):RetV Tryz.prog 242 [GoT.v qd cs1,.int .i64 net] w r:=by
 obtain ⟨p1,k1,p2,k2,p3,k3,rfl,s1,s2,s3⟩:=qat ha1
 exact zV 11 Tryz.func242 rfl fun h=>zSR (qt h rfl rfl fun w1 bb1 h=>X1 7 0 h rfl (zcI h hF (qmm ⟨_,_,rfl,(h.oldS s2)⟩) rfl fun r1 w2 h hF=>zp1 rfl (zcB h hF qav rfl fun r2 w3 h hF=>X0 2 rfl (rb h hF rfl))))
def qda (n:Nat) (net:Int) (v0:qd):Option Bool :=
 (qdp n v0 net).bind fun r1 =>
 some (!r1)
theorem qjE {net:Int} {v0:qd} {p1:Option Addr} (ha1:GoT.R w (old w) (some v0) [.pointer p1]) {r:Bool} (hF:qda n net v0=some r):RetV Tryz.prog 267 [.int .i64 net,.pointer p1] w r:=by
 obtain ⟨b1,o_1,cs1,rfl,-,hr1,hc1⟩:=PtR.get ha1 rfl
 obtain ⟨p2,k1,p3,k2,p4,k3,rfl,s1,s2,s3⟩:=qat hr1
 exact zV 8 Tryz.func267 rfl fun h=>X0 6 rfl (zc 0 (hc1.below h.below) rfl (zp1 rfl (zcB h hF (qgp (qao v0 (h.oldS s1) (h.oldS s2) (h.oldS s3))) rfl fun r1 w1 h hF=>X0 3 rfl (rb h hF rfl))))
def qG (s:(List Int)) (f_0:qd):Nat→Int→Option (Flow Int Int)
 | 0,_=>none
 | n+1,i1 =>
  bif decide (i1<(s.length:Int)) then
   (idx s i1).bind fun y1 =>
   (qda n y1 f_0).bind fun r1 =>
   bif r1 then some (.ret i1) else
   qG s f_0 n (W64 (i1+1))
  else
   some (.nxt i1)
def qaY (n:Nat) (s:(List Int)) (f_0:qd):Option Int :=
 (qG s f_0 n 0).bind fun o=>match o with
 | .ret r=>some r
 | .nxt _ =>
  some (-1)
theorem qec {s:(List Int)} {f_0:qd} (ha1:GoT.R w (old w) s cs1) {p2:Option Addr} (ha2:GoT.R w (old w) (some f_0) [.pointer p2]) {r:Int} (hF:qaY n s f_0=some r):RetV Tryz.prog 162 [GoT.v (List Int) cs1,.func (.func 267) #[] #[.pointer p2]] w r:=by
 obtain ⟨p1,k1,rfl,s1⟩:=ha1
 obtain ⟨b1,o_1,cs2,rfl,-,hr1,hc1⟩:=PtR.get ha2 rfl
 obtain ⟨p3,k2,p4,k3,p5,k4,rfl,s2,s3,s4⟩:=qat hr1
 refine zV 19 Tryz.func162 rfl fun h=>X0 11 rfl ?_
 obtain ⟨o1,hF,hK1⟩:=qc hF
 refine ql (rL (fun m e w'=>∃ (i1:Int),qG s f_0 m i1=some o1∧e=[(0,.slice p1 s.length k1),(1,.func (.func 267) #[] #[.pointer (some ⟨b1,o_1,none⟩)]),(7,.int .i64 (s.length:Int)),(8,.int .i64 i1)]∧SH w w' []) n ⟨_,hF,rfl,h⟩ rfl ?_)
 rintro m1 e1 w1 ⟨i1,hF,rfl,h⟩
 rcases m1 with _|m1
 ·cases hF
 refine X0 5 rfl (qh rfl hF ?_ ?_)<;>intro hF
 ·refine X0 13 rfl ?_
  obtain ⟨y1,hy1,hF,he1,b2,_,q1,cs3,hp1,hq1,rfl,hc3⟩:=s1.ix hF
  refine zxe hp1 hq1 he1 rfl (zc 0 (hc3.below h.below) rfl (zcB h hF (qjE (h.old ha2)) rfl fun r1 w2 h hF=>qcw (qh rfl hF ?_ ?_)))<;>intro hF
  ·refine X0 5 rfl ?_
   obtain rfl:=qb hF;replace hF:=hK1
   exact ri h hF rfl
  exact X0 6 rfl (rK ⟨_,hF,rfl,h⟩ rfl)
 refine qu rfl ?_
 obtain rfl:=qb hF;replace hF:=hK1
 exact X0 4 rfl (ri h hF rfl)
def qaK (n:Nat) (s:(List Int)) (f_0:qd):Option Bool :=
 (qaY n s f_0).bind fun r1 =>
 some (decide (r1 ≥ 0))
theorem qdI {s:(List Int)} {f_0:qd} (ha1:GoT.R w (old w) s cs1) {p2:Option Addr} (ha2:GoT.R w (old w) (some f_0) [.pointer p2]) {r:Bool} (hF:qaK n s f_0=some r):RetV Tryz.prog 110 [GoT.v (List Int) cs1,.func (.func 267) #[] #[.pointer p2]] w r:=by
 obtain ⟨p1,k1,rfl,s1⟩:=ha1
 obtain ⟨b1,o_1,cs2,rfl,-,hr1,hc1⟩:=PtR.get ha2 rfl
 obtain ⟨p3,k2,p4,k3,p5,k4,rfl,s2,s3,s4⟩:=qat hr1
 exact zV 9 Tryz.func110 rfl fun h=>X0 8 rfl (zcI h hF (qec ⟨_,_,rfl,(h.oldS s1)⟩ (h.old ha2)) rfl fun r1 w1 h hF=>X0 3 rfl (rb h hF rfl))
def qdL (n:Nat) (d:qd) (l:qp) (x:qn):Option Bool :=
 (qf4 n l.Aq).bind fun r1 =>
 (qaG n x.Bs 0 (W64 (r1-1))).bind fun r2 =>
 bif r2 then
  (idx l.Aq x.Bs).bind fun y1 =>
  bif ((x.Am.length:Int)==(y1.Be.length:Int)) then
   (qaK n x.Am d).bind fun r3 =>
   some (!r3)
  else
   some false
 else
  some false
theorem qkA {d:qd} {l:qp} {x:qn} (ha1:GoT.R w (old w) d cs1) (ha2:GoT.R w (old w) l cs2) (ha3:GoT.R w (old w) x cs3) {r:Bool} (hF:qdL n d l x=some r):RetV Tryz.prog 241 [GoT.v qd cs1,GoT.v qp cs2,GoT.v qn cs3] w r:=by
 obtain ⟨p1,k1,p2,k2,p3,k3,rfl,s1,s2,s3⟩:=qat ha1
 obtain ⟨p4,k4,rfl,s4⟩:=qbw ha2
 obtain ⟨p5,k5,rfl,s5⟩:=qO ha3
 refine zV 35 Tryz.func241 rfl fun h=>zSR (qt h rfl rfl fun w1 bb1 h=>qt h rfl rfl fun w2 bb2 h=>qt h rfl rfl fun w3 bb3 h=>X0 3 rfl (rD (Y1 2 0 h rfl ?_)))
 refine Y1 2 1 h rfl ?_
 obtain ⟨r1,hr1,hF⟩:=qc hF
 refine qaO r1 (vsI _) (cB 266 rfl) (fun _ hb=>qk7 ⟨_,_,rfl,((h.ext hb).oldS s4)⟩ hr1) rfl rfl rfl rfl (zd1 rfl ?_)
 obtain ⟨r2,hr2,hF⟩:=qc hF
 refine qaO r2 (vsB _) (cB 159 rfl) (fun _ hb=>qav  hr2) rfl rfl rfl rfl (zd1 rfl (qaJ (t:=14) hF rfl ?_ ?_))<;>intro hF
 ·refine Y1 4 0 h rfl ?_
  refine Y1 6 1 h rfl ?_
  refine Y1 4 0 h rfl ?_
  refine Y0 1 rfl ?_
  obtain ⟨y1,hy1,hF,he1,b1,_,q1,cs4,hp1,hq1,hr3,hc1⟩:=s4.ix hF
  obtain ⟨p6,k6,p7,k7,p8,k8,rfl,s6,s7,s8⟩:=qac hr3
  refine zdxe hp1 hq1 he1 rfl (Y0 3 rfl (zdc 2 (hc1.below h.below) rfl (Y0 6 rfl (qaJ (t:=28) hF rfl ?_ ?_))))<;>intro hF
  ·refine Y1 4 0 h rfl ?_
   refine Y0 3 rfl ?_
   obtain ⟨r3,hr4,hF⟩:=qc hF
   exact qaO r3 (vsB _) (cB 110 rfl) (fun _ hb=>qdI ⟨_,_,rfl,((h.ext hb).oldS s5)⟩ (qgn (x:=d) 2 (h.ext hb) rfl ((h.ext hb).old ha1)) hr4) rfl rfl rfl rfl (Y0 4 rfl (dN h fun w4 h=>rb h hF rfl))
  exact Y0 7 rfl (dN h fun w5 h=>rb h hF rfl)
 exact Y0 21 rfl (dN h fun w6 h=>rb h hF rfl)
def qjt (_:Nat) (a_n:Int):Option Bool :=
 some (a_n != 1)
theorem qnw {a_n:Int}  {r:Bool} (hF:qjt n a_n=some r):RetV Tryz.prog 244 [.int .i64 a_n] w r:=by
 exact zV 5 Tryz.func244 rfl fun h=>X0 10 rfl (rb h hF rfl)
def qaj (s:(List Int)):Nat→Int→Option (Flow Int Int)
 | 0,_=>none
 | n+1,i1 =>
  bif decide (i1<(s.length:Int)) then
   (idx s i1).bind fun y1 =>
   (qjt n y1).bind fun r1 =>
   bif r1 then some (.ret i1) else
   qaj s n (W64 (i1+1))
  else
   some (.nxt i1)
def qbZ (n:Nat) (s:(List Int)):Option Int :=
 (qaj s n 0).bind fun o=>match o with
 | .ret r=>some r
 | .nxt _ =>
  some (-1)
theorem qge {s:(List Int)} (ha1:GoT.R w (old w) s cs1) {r:Int} (hF:qbZ n s=some r):RetV Tryz.prog 269 [GoT.v (List Int) cs1,.func (.func 244) #[] #[]] w r:=by
 obtain ⟨p1,k1,rfl,s1⟩:=ha1
 refine zV 19 Tryz.func269 rfl fun h=>X0 11 rfl ?_
 obtain ⟨o1,hF,hK1⟩:=qc hF
 refine ql (rL (fun m e w'=>∃ (i1:Int),qaj s m i1=some o1∧e=[(0,.slice p1 s.length k1),(1,.func (.func 244) #[] #[]),(7,.int .i64 (s.length:Int)),(8,.int .i64 i1)]∧SH w w' []) n ⟨_,hF,rfl,h⟩ rfl ?_)
 rintro m1 e1 w1 ⟨i1,hF,rfl,h⟩
 rcases m1 with _|m1
 ·cases hF
 refine X0 5 rfl (qh rfl hF ?_ ?_)<;>intro hF
 ·refine X0 13 rfl ?_
  obtain ⟨y1,hy1,hF,he1,b1,_,q1,cs2,hp1,hq1,rfl,hc2⟩:=s1.ix hF
  refine zxe hp1 hq1 he1 rfl (zc 0 (hc2.below h.below) rfl (zcB h hF qnw rfl fun r1 w2 h hF=>qcw (qh rfl hF ?_ ?_)))<;>intro hF
  ·refine X0 5 rfl ?_
   obtain rfl:=qb hF;replace hF:=hK1
   exact ri h hF rfl
  exact X0 6 rfl (rK ⟨_,hF,rfl,h⟩ rfl)
 refine qu rfl ?_
 obtain rfl:=qb hF;replace hF:=hK1
 exact X0 4 rfl (ri h hF rfl)
def qbE (n:Nat) (s:(List Int)):Option Bool :=
 (qbZ n s).bind fun r1 =>
 some (decide (r1 ≥ 0))
theorem qfr {s:(List Int)} (ha1:GoT.R w (old w) s cs1) {r:Bool} (hF:qbE n s=some r):RetV Tryz.prog 243 [GoT.v (List Int) cs1,.func (.func 244) #[] #[]] w r:=by
 obtain ⟨p1,k1,rfl,s1⟩:=ha1
 exact zV 9 Tryz.func243 rfl fun h=>X0 8 rfl (zcI h hF (qge ⟨_,_,rfl,(h.oldS s1)⟩) rfl fun r1 w1 h hF=>X0 3 rfl (rb h hF rfl))
def qcg (a_1:qd):Nat→(List Int)→Int→Option (Flow Bool ((List Int) × Int))
 | 0,_,_=>none
 | n+1,x3,i2 =>
  bif decide (i2<(a_1.Aj.length:Int)) then
   (idx a_1.Aj i2).bind fun y5 =>
   (
    bif (y5.Bv != 1) then
     bif (y5.Bv != 2) then some true else
     (qdp n a_1 y5.Bx).bind fun r2 =>
     some (!r2)
    else
     (qdp n a_1 y5.Bx).bind fun r3 =>
     some (!r3)).bind fun b7 =>
   bif b7 then some (.ret false) else
   bif (y5.Bv==1) then
    (idx x3 y5.Bx).bind fun y6 =>
    (idx x3 y5.Bx).bind fun _ =>
    qcg a_1 n (setS x3 y5.Bx (W64 (y6+1))) (W64 (i2+1))
   else
    qcg a_1 n x3 (W64 (i2+1))
  else
   some (.nxt (x3,i2))
def qc3 (a_0:qp) (a_1:qd):Nat→(List Int)→Int→Option (Flow Bool ((List Int) × Int))
 | 0,_,_=>none
 | n+1,x2,i1 =>
  bif decide (i1<(a_1.Aa.length:Int)) then
   (idx a_1.Aa i1).bind fun y1 =>
   (qdL n a_1 a_0 y1).bind fun r1 =>
   bif (!r1) then some (.ret false) else
   (idx y1.Am (W64 ((y1.Am.length:Int)-1))).bind fun y2 =>
   (idx x2 y2).bind fun y3 =>
   (idx x2 y2).bind fun _ =>
   qc3 a_0 a_1 n (setS x2 y2 (W64 (y3+1))) (W64 (i1+1))
  else
   some (.nxt (x2,i1))
def qiO (n:Nat) (a_0:qp) (a_1:qd):Option Bool :=
 (
  (qiq n a_0).bind fun r5 =>
  bif (!r5) then some true else
  (qeM n a_1).bind fun r6 =>
  some (!r6)).bind fun b1 =>
 bif b1 then some false else
 (mkS (a_1.Am.length:Int) (0:Int)).bind fun x1 =>
 (qc3 a_0 a_1 n x1 0).bind fun o=>match o with
 | .ret r=>some r
 | .nxt (x2,_) =>
  (qcg a_1 n x2 0).bind fun o=>match o with
  | .ret r=>some r
  | .nxt (x3,_) =>
   (qbE n x3).bind fun r4 =>
   some (!r4)
theorem qoA {a_0:qp} {a_1:qd} (ha1:GoT.R w (old w) a_0 cs1) (ha2:GoT.R w (old w) a_1 cs2) {r:Bool} (hF:qiO n a_0 a_1=some r):RetV Tryz.prog 211 [GoT.v qp cs1,GoT.v qd cs2] w r:=by
 obtain ⟨p1,k1,rfl,s1⟩:=qbw ha1
 obtain ⟨p2,k2,p3,k3,p4,k4,rfl,s2,s3,s4⟩:=qat ha2
 refine zV 84 Tryz.func211 rfl fun h=>zSR (qt h rfl rfl fun w1 bb1 h=>qt h rfl rfl fun w2 bb2 h=>X0 4 rfl ?_)
 obtain ⟨KF2,hKF2,o4,hF,hK4⟩:=bindE hF
 refine qbm (fun e w'=>∃ (b1:Bool),KF2 b1=some r∧e=[(2,.pointer (some ⟨bb1,0,none⟩)),(3,.pointer (some ⟨bb2,0,none⟩)),(17,.bool b1)]∧SH w w' [Ch.box bb2 (qaH a_1 p2 p3 p4 k2 k3 k4) 48,Ch.box bb1 [.slice p1 a_0.Aq.length k1] 44]) ?_ ?_
 ·refine X1 2 1 h rfl (zcB h hF (qob (h.old ha1)) rfl fun r5 w17 h hF=>zp2 rfl (qi (t:=13) hF rfl ?_ ?_))<;>intro hF
  ·refine X0 5 rfl ?_
   obtain rfl:=qb hF
   exact rG ⟨_,hK4,rfl,h⟩ rfl
  refine X1 3 0 h rfl (zcB h hF (qln (h.old ha2)) rfl fun r6 w18 h hF=>X0 4 rfl ?_)
  obtain rfl:=qb hF
  exact rG ⟨_,hK4,rfl,h⟩ rfl
 rintro e4 w19 ⟨b1,hF,rfl,h⟩
 subst hKF2
 refine qh rfl hF ?_ ?_<;>intro hF
 ·exact X0 4 rfl (rb h hF rfl)
 refine X1 6 0 h rfl ?_
 obtain ⟨x1,hx1,hF⟩:=qc hF
 obtain ⟨g1,g2,hx1⟩:=qN hx1
 refine qai qa Int h rfl rfl rfl rfl rfl rfl rfl rfl rfl g1 g2 hx1 rfl fun w3 S1 p5 h=>X1 10 1 h rfl ?_
 obtain ⟨o1,hF,hK1⟩:=qc hF
 refine ql (rL (fun m e w'=>∃ (x2:(List Int)) (i1:Int),qc3 a_0 a_1 m x2 i1=some o1∧e=[(2,.pointer (some ⟨bb1,0,none⟩)),(3,.pointer (some ⟨bb2,0,none⟩)),(5,.slice p5 x1.length x1.length),(23,.slice p2 a_1.Aa.length k2),(24,.int .i64 (a_1.Aa.length:Int)),(25,.int .i64 i1)]∧SH w w' [Ch.own S1 (x2:List Int) [.slice p5 x1.length x1.length],Ch.box bb2 (qaH a_1 p2 p3 p4 k2 k3 k4) 48,Ch.box bb1 [.slice p1 a_0.Aq.length k1] 44]) n ⟨_,_,hF,rfl,h⟩ rfl ?_)
 rintro m1 e1 w4 ⟨x2,i1,hF,rfl,h⟩
 rcases m1 with _|m1
 ·cases hF
 refine X0 5 rfl (qh rfl hF ?_ ?_)<;>intro hF
 ·refine zKSBSR ?_
  obtain ⟨y1,hy1,hF,he1,b2,_,q1,cs3,hp1,hq1,hr1,hc3⟩:=s2.ix hF
  obtain ⟨p6,k5,rfl,s5⟩:=qO hr1
  refine zxe hp1 hq1 he1 rfl (zc 0 (hc3.below h.below) rfl (qm qa h rfl rfl rfl fun w5 bb3 h=>zs 0 h rfl fun w6 h=>X3 7 2 3 0 h rfl (zcB h hF (qkA (h.old ha2) (h.old ha1) (qf0 y1 (h.oldS s5))) rfl fun r1 w7 h hF=>X0 2 rfl (qh rfl hF ?_ ?_))))<;>intro hF
  ·refine X0 4 rfl ?_
   obtain rfl:=qb hF;replace hF:=hK1
   exact rb h hF rfl
  refine X2 9 0 0 h rfl ?_
  obtain ⟨y2,hy2,hF,he2,b3,_,q2,cs4,hp2,hq2,rfl,hc5⟩:=s5.ix hF
  refine zxe hp2 hq2 he2 rfl (zc 0 (hc5.below h.below) rfl ?_)
  obtain ⟨y3,hy3,hF,he3,b4,_,q3,cs5,hp3,hq3,rfl,hc6⟩:=(h.sl 1 rfl).1.ix hF
  refine zx hp3 hq3 ⟨he3.1,qU he3.2.1 (h.sl 1 rfl).2⟩ rfl (zc 0 hc6 rfl (zp1 rfl ?_))
  obtain ⟨y4,hy4,hF,he4,b5,_,q4,cs6,hp4,hq4,rfl,hc7⟩:=(h.sl 1 rfl).1.ix hF
  refine zx hp4 hq4 ⟨he4.1,qU he4.2.1 (h.sl 1 rfl).2⟩ rfl (qbu qa 1 0 (W64 (y3+1)) h rfl hy4 hp4 hq4 rfl hc7 rfl rfl rfl rfl rfl rfl rfl fun w8 h=>X0 6 rfl ?_)
  replace h:=h.pick [1,2,3] rfl
  exact rK ⟨_,_,hF,rfl,h⟩ rfl
 refine qu rfl ?_
 obtain rfl:=qb hF;replace hF:=hK1
 refine X1 8 1 h rfl ?_
 obtain ⟨o2,hF,hK2⟩:=qc hF
 refine ql ?_
 replace h:=h.pick [0,1] rfl
 refine rL (fun m e w'=>∃ (x3:(List Int)) (i2:Int),qcg a_1 m x3 i2=some o2∧e=[(3,.pointer (some ⟨bb2,0,none⟩)),(5,.slice p5 x1.length x1.length),(49,.slice p4 a_1.Aj.length k4),(50,.int .i64 (a_1.Aj.length:Int)),(51,.int .i64 i2)]∧SH w w' [Ch.own S1 (x3:List Int) [.slice p5 x1.length x1.length],Ch.box bb2 (qaH a_1 p2 p3 p4 k2 k3 k4) 48]) n ⟨_,_,hF,rfl,h⟩ rfl ?_
 rintro m2 e2 w9 ⟨x3,i2,hF,rfl,h⟩
 rcases m2 with _|m2
 ·cases hF
 refine X0 5 rfl (qh rfl hF ?_ ?_)<;>intro hF
 ·refine zKSBSR ?_
  obtain ⟨y5,hy5,hF,he5,b6,_,q5,cs7,hp5,hq5,hr6,hc9⟩:=s4.ix hF
  obtain rfl:=qbj hr6
  refine zxe hp5 hq5 he5 rfl (zc 0 (hc9.below h.below) rfl (qm qa h rfl rfl rfl fun w10 bb4 h=>zs 0 h rfl fun w11 h=>zNSS ?_))
  obtain ⟨KF1,hKF1,o3,hF,hK3⟩:=bindE hF
  refine qbm (fun e w'=>∃ (b7:Bool),KF1 b7=some o2∧e=[(3,.pointer (some ⟨bb2,0,none⟩)),(5,.slice p5 x1.length x1.length),(9,.pointer (some ⟨bb4,0,none⟩)),(49,.slice p4 a_1.Aj.length k4),(50,.int .i64 (a_1.Aj.length:Int)),(51,.int .i64 i2),(69,.bool b7)]∧SH w w' [Ch.box bb4 (qpV y5) 245,Ch.own S1 (x3:List Int) [.slice p5 x1.length x1.length],Ch.box bb2 (qaH a_1 p2 p3 p4 k2 k3 k4) 48]) ?_ ?_
  ·refine X1 5 0 h rfl (qi (t:=58) hF rfl ?_ ?_)<;>intro hF
   ·refine X1 8 0 h rfl (qi (t:=63) hF rfl ?_ ?_)<;>intro hF
    ·refine X0 7 rfl ?_
     obtain rfl:=qb hF
     exact rG ⟨_,hK3,rfl,h⟩ rfl
    refine X2 7 2 0 h rfl (zcB h hF (qgp (h.old ha2)) rfl fun r2 w13 h hF=>X0 4 rfl ?_)
    obtain rfl:=qb hF
    exact rG ⟨_,hK3,rfl,h⟩ rfl
   refine X2 12 2 0 h rfl (zcB h hF (qgp (h.old ha2)) rfl fun r3 w14 h hF=>X0 4 rfl ?_)
   obtain rfl:=qb hF
   exact rG ⟨_,hK3,rfl,h⟩ rfl
  rintro e3 w15 ⟨b7,hF,rfl,h⟩
  subst hKF1
  refine qh rfl hF ?_ ?_<;>intro hF
  ·refine X0 4 rfl ?_
   obtain rfl:=qb hF;replace hF:=hK2
   exact rb h hF rfl
  refine X1 7 0 h rfl (qh rfl hF ?_ ?_)<;>intro hF
  ·refine X1 4 0 h rfl ?_
   obtain ⟨y6,hy6,hF,he6,b8,_,q6,cs8,hp6,hq6,rfl,hc12⟩:=(h.sl 1 rfl).1.ix hF
   refine zx hp6 hq6 ⟨he6.1,qU he6.2.1 (h.sl 1 rfl).2⟩ rfl (zc 0 hc12 rfl (zp1 rfl ?_))
   obtain ⟨y7,hy7,hF,he7,b9,_,q7,cs9,hp7,hq7,rfl,hc13⟩:=(h.sl 1 rfl).1.ix hF
   refine zx hp7 hq7 ⟨he7.1,qU he7.2.1 (h.sl 1 rfl).2⟩ rfl (qbu qa 1 0 (W64 (y6+1)) h rfl hy7 hp7 hq7 rfl hc13 rfl rfl rfl rfl rfl rfl rfl fun w12 h=>X0 6 rfl ?_)
   replace h:=h.pick [1,2] rfl
   exact rK ⟨_,_,hF,rfl,h⟩ rfl
  refine X0 6 rfl ?_
  replace h:=h.pick [1,2] rfl
  exact rK ⟨_,_,hF,rfl,h⟩ rfl
 refine qu rfl ?_
 obtain rfl:=qb hF;replace hF:=hK2
 exact X0 3 rfl (zcB h hF (qfr (h.own 0 rfl)) rfl fun r4 w16 h hF=>X0 3 rfl (rb h hF rfl))
def qbA (i1:Int) (y1:qn):Nat→(List Tplace)→Int→Option ((List Tplace) × Int)
 | 0,_,_=>none
 | n+1,x2,i2 =>
  bif decide (i2<(y1.Am.length:Int)) then
   (idx y1.Am i2).bind fun y2 =>
   (appS x2 ([(⟨i1,i2,y2,(i2==(W64 ((y1.Am.length:Int)-1)))⟩:Tplace)]:List Tplace)).bind fun x3 =>
   qbA i1 y1 n x3 (W64 (i2+1))
  else
   some (x2,i2)
def qbC (d:qd):Nat→(List Tplace)→Int→Option ((List Tplace) × Int)
 | 0,_,_=>none
 | n+1,x4,i3 =>
  bif decide (i3<(d.Aj.length:Int)) then
   (idx d.Aj i3).bind fun y3 =>
   (appS x4 ([(⟨(-1),i3,y3.Bx,(y3.Bv==1)⟩:Tplace)]:List Tplace)).bind fun x5 =>
   qbC d n x5 (W64 (i3+1))
  else
   some (x4,i3)
def qbz (d:qd):Nat→(List Tplace)→Int→Option ((List Tplace) × Int)
 | 0,_,_=>none
 | n+1,x1,i1 =>
  bif decide (i1<(d.Aa.length:Int)) then
   (idx d.Aa i1).bind fun y1 =>
   (qbA i1 y1 n x1 0).bind fun o=>match o with
   | (x2,_) =>
    qbz d n x2 (W64 (i1+1))
  else
   some (x1,i1)
def qce (n:Nat) (d:qd):Option (List Tplace) :=
 (qbz d n ([]:List Tplace) 0).bind fun o=>match o with
 | (x1,_) =>
  (qbC d n x1 0).bind fun o=>match o with
  | (x4,_) =>
   some x4
theorem qen {d:qd} (ha1:GoT.R w (old w) d cs1) {r:(List Tplace)} (hF:qce n d=some r):RetV Tryz.prog 212 [GoT.v qd cs1] w r:=by
 obtain ⟨p1,k1,p2,k2,p3,k3,rfl,s1,s2,s3⟩:=qat ha1
 refine zV 61 Tryz.func212 rfl fun h=>zSR (qt h rfl rfl fun w1 bb1 h=>X1 14 0 h rfl ?_)
 replace h:=h.nil (α:=Tplace)
 obtain ⟨o1,hF,hK1⟩:=qc hF
 refine ql (rL (fun m e w'=>∃ (S1:Nat→Prop) (p4:Option Addr) (ln1:Nat) (k4:Nat) (x1:(List Tplace)) (i1:Int),qbz d m x1 i1=some o1∧e=[(1,.pointer (some ⟨bb1,0,none⟩)),(3,.slice p4 ln1 k4),(11,.slice p1 d.Aa.length k1),(12,.int .i64 (d.Aa.length:Int)),(13,.int .i64 i1)]∧SH w w' [Ch.own S1 (x1:List Tplace) [.slice p4 ln1 k4],Ch.box bb1 (qaH d p1 p2 p3 k1 k2 k3) 48]) n ⟨_,_,_,_,_,_,hF,rfl,h⟩ rfl ?_)
 rintro m1 e1 w2 ⟨S1,p4,ln1,k4,x1,i1,hF,rfl,h⟩
 obtain rfl:=(h.sl 0 rfl).2
 rcases m1 with _|m1
 ·cases hF
 refine X0 5 rfl (qh rfl hF ?_ ?_)<;>intro hF
 ·refine X0 6 rfl ?_
  obtain ⟨y1,hy1,hF,he1,b1,_,q1,cs2,hp1,hq1,hr1,hc2⟩:=s1.ix hF
  obtain ⟨p5,k5,rfl,s4⟩:=qO hr1
  refine zxe hp1 hq1 he1 rfl (zc 0 (hc2.below h.below) rfl (qm qa h rfl rfl rfl fun w3 bb2 h=>zp1 rfl (zs 0 h rfl fun w4 h=>X1 8 0 h rfl ?_)))
  obtain ⟨o2,hF,hK2⟩:=qc hF
  refine ql (rL (fun m e w'=>∃ (S2:Nat→Prop) (p6:Option Addr) (ln2:Nat) (k6:Nat) (x2:(List Tplace)) (i2:Int),qbA i1 y1 m x2 i2=some o2∧e=[(1,.pointer (some ⟨bb1,0,none⟩)),(3,.slice p6 ln2 k6),(4,.int .i64 i1),(5,.pointer (some ⟨bb2,0,none⟩)),(11,.slice p1 d.Aa.length k1),(12,.int .i64 (d.Aa.length:Int)),(13,.int .i64 i1),(19,.slice p5 y1.Am.length k5),(20,.int .i64 (y1.Am.length:Int)),(21,.int .i64 i2)]∧SH w w' [Ch.box bb2 (qi4 y1 p5 k5) 170,Ch.own S2 (x2:List Tplace) [.slice p6 ln2 k6],Ch.box bb1 (qaH d p1 p2 p3 k1 k2 k3) 48]) m1 ⟨_,_,_,_,_,_,hF,rfl,h⟩ rfl ?_)
  rintro m2 e2 w5 ⟨S2,p6,ln2,k6,x2,i2,hF,rfl,h⟩
  obtain rfl:=(h.sl 1 rfl).2
  rcases m2 with _|m2
  ·cases hF
  refine X0 5 rfl (qh rfl hF ?_ ?_)<;>intro hF
  ·refine X0 6 rfl ?_
   obtain ⟨y2,hy2,hF,he2,b2,_,q2,cs3,hp2,hq2,rfl,hc4⟩:=s4.ix hF
   refine zxe hp2 hq2 he2 rfl (zc 0 (hc4.below h.below) rfl (X1 14 0 h rfl (r_v (qY qa [0,1,2,3] [.tmp 27,.tmp 28,.tmp 29,.tmp 35] rfl rfl rfl rfl rfl rfl rfl rfl) rfl (qK qa [.tmp 36] _ ([(⟨i1,i2,y2,(i2==(W64 ((y1.Am.length:Int)-1)))⟩:Tplace)]:List Tplace) h rfl rfl rfl rfl rfl rfl rfl rfl rfl ⟨(qlL (⟨i1,i2,y2,(i2==(W64 ((y1.Am.length:Int)-1)))⟩:Tplace)),trivial⟩ rfl fun w6 p7 S3 h=>?_))))
   obtain ⟨x3,hx1,hF⟩:=qc hF
   obtain ⟨g1,hx1⟩:=qay hx1
   refine qcE qa 2 h rfl (h.sl 0 rfl).1 (h.sl 0 rfl).2 rfl rfl rfl rfl rfl rfl rfl rfl rfl g1 hx1 rfl fun w7 p8 k7 S4 h=>X0 7 rfl ?_
   replace h:=h.pick [1,2,3] rfl
   exact rK ⟨_,_,_,_,_,_,hF,rfl,h⟩ rfl
  refine qu rfl ?_
  obtain rfl:=qb hF;replace hF:=hK2
  refine X0 5 rfl ?_
  replace h:=h.pick [1,2] rfl
  exact rK ⟨_,_,_,_,_,_,hF,rfl,h⟩ rfl
 refine qu rfl ?_
 obtain rfl:=qb hF;replace hF:=hK1
 refine X1 8 1 h rfl ?_
 obtain ⟨o3,hF,hK3⟩:=qc hF
 refine ql ?_
 replace h:=h.pick [0] rfl
 refine rL (fun m e w'=>∃ (S5:Nat→Prop) (p9:Option Addr) (ln3:Nat) (k8:Nat) (x4:(List Tplace)) (i3:Int),qbC d m x4 i3=some o3∧e=[(3,.slice p9 ln3 k8),(42,.slice p3 d.Aj.length k3),(43,.int .i64 (d.Aj.length:Int)),(44,.int .i64 i3)]∧SH w w' [Ch.own S5 (x4:List Tplace) [.slice p9 ln3 k8]]) n ⟨_,_,_,_,_,_,hF,rfl,h⟩ rfl ?_
 rintro m3 e3 w8 ⟨S5,p9,ln3,k8,x4,i3,hF,rfl,h⟩
 obtain rfl:=(h.sl 0 rfl).2
 rcases m3 with _|m3
 ·cases hF
 refine X0 5 rfl (qh rfl hF ?_ ?_)<;>intro hF
 ·refine X0 6 rfl ?_
  obtain ⟨y3,hy3,hF,he3,b3,_,q3,cs4,hp3,hq3,hr3,hc6⟩:=s3.ix hF
  obtain rfl:=qbj hr3
  refine zxe hp3 hq3 he3 rfl (zc 0 (hc6.below h.below) rfl (qm qa h rfl rfl rfl fun w9 bb3 h=>zp1 rfl (zs 0 h rfl fun w10 h=>X2 9 0 0 h rfl (r_v (qY qa [0,1,2,3] [.const (.int .i64 (-1)),.tmp 50,.tmp 52,.tmp 55] rfl rfl rfl rfl rfl rfl rfl rfl) rfl (qK qa [.tmp 56] _ ([(⟨(-1),i3,y3.Bx,(y3.Bv==1)⟩:Tplace)]:List Tplace) h rfl rfl rfl rfl rfl rfl rfl rfl rfl ⟨(qlL (⟨(-1),i3,y3.Bx,(y3.Bv==1)⟩:Tplace)),trivial⟩ rfl fun w11 p10 S6 h=>?_)))))
  obtain ⟨x5,hx2,hF⟩:=qc hF
  obtain ⟨g2,hx2⟩:=qay hx2
  refine qcE qa 2 h rfl (h.sl 0 rfl).1 (h.sl 0 rfl).2 rfl rfl rfl rfl rfl rfl rfl rfl rfl g2 hx2 rfl fun w12 p11 k9 S7 h=>X0 7 rfl ?_
  replace h:=h.pick [2] rfl
  exact rK ⟨_,_,_,_,_,_,hF,rfl,h⟩ rfl
 refine qu rfl ?_
 obtain rfl:=qb hF;replace hF:=hK3
 refine X0 5 rfl ?_
 obtain rfl:=qb hF
 exact rO 0 h rfl ⟨rfl,trivial⟩
def qa5 (a_w:qQ):Nat→Int→Option (Flow Bool Int)
 | 0,_=>none
 | n+1,i1 =>
  bif decide (i1<(a_w.Ak.length:Int)) then
   (idx a_w.Ak i1).bind fun y1 =>
   bif (i1==0) then
    bif (y1 != (-1)) then some (.ret false) else
    (idx a_w.Bw 0).bind fun y2 =>
    bif (y2 != 0) then some (.ret false) else
    bif decide (i1 > 0) then
     (qaG n y1 0 (W64 (i1-1))).bind fun r1 =>
     bif (!r1) then some (.ret false) else
     qa5 a_w n (W64 (i1+1))
    else
     qa5 a_w n (W64 (i1+1))
   else
    bif decide (i1 > 0) then
     (qaG n y1 0 (W64 (i1-1))).bind fun r2 =>
     bif (!r2) then some (.ret false) else
     qa5 a_w n (W64 (i1+1))
    else
     qa5 a_w n (W64 (i1+1))
  else
   some (.nxt i1)
def qgW (n:Nat) (a_w:qQ):Option Bool :=
 (qa5 a_w n 0).bind fun o=>match o with
 | .ret r=>some r
 | .nxt _ =>
  some true
theorem qni {a_w:qQ} (ha1:GoT.R w (old w) a_w cs1) {r:Bool} (hF:qgW n a_w=some r):RetV Tryz.prog 245 [GoT.v qQ cs1] w r:=by
 obtain ⟨p1,k1,p2,k2,p3,k3,p4,k4,rfl,s1,s2,s3,s4⟩:=qaL ha1
 refine zV 38 Tryz.func245 rfl fun h=>zSR (qt h rfl rfl fun w1 bb1 h=>X1 10 0 h rfl ?_)
 obtain ⟨o1,hF,hK1⟩:=qc hF
 refine ql (rL (fun m e w'=>∃ (i1:Int),qa5 a_w m i1=some o1∧e=[(1,.pointer (some ⟨bb1,0,none⟩)),(6,.slice p1 a_w.Ak.length k1),(7,.int .i64 (a_w.Ak.length:Int)),(8,.int .i64 i1)]∧SH w w' [Ch.box bb1 (qf8 a_w p1 p2 p3 p4 k1 k2 k3 k4) 186]) n ⟨_,hF,rfl,h⟩ rfl ?_)
 rintro m1 e1 w2 ⟨i1,hF,rfl,h⟩
 rcases m1 with _|m1
 ·cases hF
 refine X0 5 rfl (qh rfl hF ?_ ?_)<;>intro hF
 ·refine X0 6 rfl ?_
  obtain ⟨y1,hy1,hF,he1,b1,_,q1,cs2,hp1,hq1,rfl,hc2⟩:=s1.ix hF
  refine zxe hp1 hq1 he1 rfl (zc 0 (hc2.below h.below) rfl (X0 8 rfl (qi (t:=15) hF rfl ?_ ?_)))<;>intro hF
  ·refine X0 6 rfl (qi (t:=18) hF rfl ?_ ?_)<;>intro hF
   ·refine X0 20 rfl (qbW rfl rfl (X0 4 rfl ?_))
    obtain rfl:=qb hF;replace hF:=hK1
    exact rb h hF rfl
   refine X1 5 0 h rfl ?_
   obtain ⟨y2,hy2,hF,he2,b2,_,q2,cs3,hp2,hq2,rfl,hc3⟩:=s2.ix hF
   refine zxe hp2 hq2 he2 rfl (X0 1 rfl (zc 0 (hc3.below h.below) rfl (X0 6 rfl (qi (t:=26) hF rfl ?_ ?_))))<;>intro hF
   ·refine X0 11 rfl (qbW rfl rfl (X0 4 rfl ?_))
    obtain rfl:=qb hF;replace hF:=hK1
    exact rb h hF rfl
   refine X0 6 rfl (qi (t:=29) hF rfl ?_ ?_)<;>intro hF
   ·refine X0 7 rfl (zcB h hF qav rfl fun r1 w3 h hF=>X0 6 rfl (qh rfl hF ?_ ?_))<;>intro hF
    ·refine X0 4 rfl ?_
     obtain rfl:=qb hF;replace hF:=hK1
     exact rb h hF rfl
    exact X0 6 rfl (rK ⟨_,hF,rfl,h⟩ rfl)
   exact X0 9 rfl (qbS rfl rfl (X0 6 rfl (rK ⟨_,hF,rfl,h⟩ rfl)))
  refine X0 17 rfl (qi (t:=29) hF rfl ?_ ?_)<;>intro hF
  ·refine X0 7 rfl (zcB h hF qav rfl fun r2 w4 h hF=>X0 6 rfl (qh rfl hF ?_ ?_))<;>intro hF
   ·refine X0 4 rfl ?_
    obtain rfl:=qb hF;replace hF:=hK1
    exact rb h hF rfl
   exact X0 6 rfl (rK ⟨_,hF,rfl,h⟩ rfl)
  exact X0 9 rfl (qbS rfl rfl (X0 6 rfl (rK ⟨_,hF,rfl,h⟩ rfl)))
 refine qu rfl ?_
 obtain rfl:=qb hF;replace hF:=hK1
 exact X0 4 rfl (rb h hF rfl)
def qkO (n:Nat) (a_w:qQ) (sinks:Int):Option Bool :=
 (qbl n a_w.Ak).bind fun r1 =>
 (qaG n r1 1 8).bind fun r2 =>
 bif r2 then
  (qbl n a_w.Bw).bind fun r3 =>
  bif (r3==r1) then
   (qbl n a_w.Bt).bind fun r4 =>
   bif (r4==r1) then
    (qgW n a_w).bind fun r5 =>
    bif r5 then
     (qbH n a_w.Bw 0 1000).bind fun r6 =>
     bif r6 then
      (qbH n a_w.Bt 0 500).bind fun r7 =>
      bif r7 then
       (qbl n a_w.Bl).bind fun r8 =>
       bif (r8==sinks) then
        (qbH n a_w.Bl 0 (W64 (r1-1))).bind fun r9 =>
        some r9
       else
        some false
      else
       some false
     else
      some false
    else
     some false
   else
    some false
  else
   some false
 else
  some false
theorem qqc {a_w:qQ} {sinks:Int} (ha1:GoT.R w (old w) a_w cs1) {r:Bool} (hF:qkO n a_w sinks=some r):RetV Tryz.prog 213 [GoT.v qQ cs1,.int .i64 sinks] w r:=by
 obtain ⟨p1,k1,p2,k2,p3,k3,p4,k4,rfl,s1,s2,s3,s4⟩:=qaL ha1
 refine zV 53 Tryz.func213 rfl fun h=>zSR (qt h rfl rfl fun w1 bb1 h=>X1 6 0 h rfl (zcI h hF (qco ⟨_,_,rfl,(h.oldS s1)⟩) rfl fun r1 w2 h hF=>X0 5 rfl (zcB h hF qav rfl fun r2 w3 h hF=>zp1 rfl (qi (t:=11) hF rfl ?_ ?_))))<;>intro hF
 ·refine X1 5 0 h rfl (zcI h hF (qco ⟨_,_,rfl,(h.oldS s2)⟩) rfl fun r3 w4 h hF=>X0 6 rfl (qi (t:=18) hF rfl ?_ ?_))<;>intro hF
  ·refine X1 5 0 h rfl (zcI h hF (qco ⟨_,_,rfl,(h.oldS s3)⟩) rfl fun r4 w5 h hF=>X0 6 rfl (qi (t:=25) hF rfl ?_ ?_))<;>intro hF
   ·refine X1 3 0 h rfl (zcB h hF (qni (h.old ha1)) rfl fun r5 w6 h hF=>zp2 rfl (qi (t:=29) hF rfl ?_ ?_))<;>intro hF
    ·refine X1 5 0 h rfl (zcB h hF (qb2 ⟨_,_,rfl,(h.oldS s2)⟩) rfl fun r6 w7 h hF=>zp2 rfl (qi (t:=34) hF rfl ?_ ?_))<;>intro hF
     ·refine X1 5 0 h rfl (zcB h hF (qb2 ⟨_,_,rfl,(h.oldS s3)⟩) rfl fun r7 w8 h hF=>zp2 rfl (qi (t:=39) hF rfl ?_ ?_))<;>intro hF
      ·refine X1 5 0 h rfl (zcI h hF (qco ⟨_,_,rfl,(h.oldS s4)⟩) rfl fun r8 w9 h hF=>X0 6 rfl (qi (t:=46) hF rfl ?_ ?_))<;>intro hF
       ·exact X1 9 0 h rfl (zcB h hF (qb2 ⟨_,_,rfl,(h.oldS s4)⟩) rfl fun r9 w10 h hF=>X0 3 rfl (rb h hF rfl))
       exact X0 8 rfl (rb h hF rfl)
      exact X0 15 rfl (rb h hF rfl)
     exact X0 20 rfl (rb h hF rfl)
    exact X0 25 rfl (rb h hF rfl)
   exact X0 29 rfl (rb h hF rfl)
  exact X0 36 rfl (rb h hF rfl)
 exact X0 43 rfl (rb h hF rfl)
def qey (b:qf) (x2:(List Int)):Nat→Int→Option (Flow Bool Int)
 | 0,_=>none
 | n+1,i2 =>
  bif decide (i2<(b.Ac.length:Int)) then
   (idx b.Ac i2).bind fun y4 =>
   (idx x2 i2).bind fun y5 =>
   (qkO n y4 y5).bind fun r2 =>
   bif (!r2) then some (.ret false) else
   qey b x2 n (W64 (i2+1))
  else
   some (.nxt i2)
def qcP (r1:(List Tplace)):Nat→(List Int)→Int→Option ((List Int) × Int)
 | 0,_,_=>none
 | n+1,x2,i1 =>
  bif decide (i1<(r1.length:Int)) then
   (idx r1 i1).bind fun y1 =>
   bif (!y1.drives) then
    (idx x2 y1.net).bind fun y2 =>
    (idx x2 y1.net).bind fun _ =>
    qcP r1 n (setS x2 y1.net (W64 (y2+1))) (W64 (i1+1))
   else
    qcP r1 n x2 (W64 (i1+1))
  else
   some (x2,i1)
def qhQ (n:Nat) (b:qf):Option Bool :=
 (
  (qiO n (⟨b.Av.Aq⟩:qp) (⟨b.Ab.Aa,b.Ab.Am,b.Ab.Aj⟩:qd)).bind fun r3 =>
  bif (!r3) then some true else
  some ((b.Ac.length:Int) != (b.Ab.Am.length:Int))).bind fun b1 =>
 bif b1 then some false else
 (mkS (b.Ac.length:Int) (0:Int)).bind fun x1 =>
 (qce n (⟨b.Ab.Aa,b.Ab.Am,b.Ab.Aj⟩:qd)).bind fun r1 =>
 (qcP r1 n x1 0).bind fun o=>match o with
 | (x2,_) =>
  (qey b x2 n 0).bind fun o=>match o with
  | .ret r=>some r
  | .nxt _ =>
   some true
theorem qpA {b:qf} (ha1:GoT.R w (old w) b cs1) {r:Bool} (hF:qhQ n b=some r):RetV Tryz.prog 186 [GoT.v qf cs1] w r:=by
 obtain ⟨p1,k1,p2,k2,p3,k3,p4,k4,p5,k5,rfl,s1,s2,s3,s4,s5⟩:=qab ha1
 refine zV 63 Tryz.func186 rfl fun h=>zSR (qt h rfl rfl fun w1 bb1 h=>X0 4 rfl ?_)
 obtain ⟨KF1,hKF1,o3,hF,hK3⟩:=bindE hF
 refine qbm (fun e w'=>∃ (b1:Bool),KF1 b1=some r∧e=[(1,.pointer (some ⟨bb1,0,none⟩)),(23,.bool b1)]∧SH w w' [Ch.box bb1 (qaQ b p1 p2 p3 p4 p5 k1 k2 k3 k4 k5) 51]) ?_ ?_
 ·refine X2 5 0 0 h rfl (zcB h hF (qoA (qdR _ (h.oldS s1)) (qao _ (h.oldS s2) (h.oldS s3) (h.oldS s4))) rfl fun r3 w12 h hF=>zp2 rfl (qi (t:=14) hF rfl ?_ ?_))<;>intro hF
  ·refine X0 10 rfl ?_
   obtain rfl:=qb hF
   exact rG ⟨_,hK3,rfl,h⟩ rfl
  refine X2 18 0 0 h rfl ?_
  obtain rfl:=qb hF
  exact rG ⟨_,hK3,rfl,h⟩ rfl
 rintro e3 w13 ⟨b1,hF,rfl,h⟩
 subst hKF1
 refine qh rfl hF ?_ ?_<;>intro hF
 ·exact X0 4 rfl (rb h hF rfl)
 refine X1 6 0 h rfl ?_
 obtain ⟨x1,hx1,hF⟩:=qc hF
 obtain ⟨g1,g2,hx1⟩:=qN hx1
 refine qai qa Int h rfl rfl rfl rfl rfl rfl rfl rfl rfl g1 g2 hx1 rfl fun w2 S1 p6 h=>X1 7 1 h rfl (zcL h hF (qen (qao _ (h.oldS s2) (h.oldS s3) (h.oldS s4))) rfl fun r1 w3 S2 p7 k6 h hF=>X0 3 rfl ?_)
 obtain ⟨o1,hF,hK1⟩:=qc hF
 refine ql (rL (fun m e w'=>∃ (x2:(List Int)) (i1:Int),qcP r1 m x2 i1=some o1∧e=[(1,.pointer (some ⟨bb1,0,none⟩)),(3,.slice p6 x1.length x1.length),(30,.slice p7 r1.length k6),(31,.int .i64 (r1.length:Int)),(32,.int .i64 i1)]∧SH w w' [Ch.own S2 (r1:List Tplace) [.slice p7 r1.length k6],Ch.own S1 (x2:List Int) [.slice p6 x1.length x1.length],Ch.box bb1 (qaQ b p1 p2 p3 p4 p5 k1 k2 k3 k4 k5) 51]) n ⟨_,_,hF,rfl,h⟩ rfl ?_)
 rintro m1 e1 w4 ⟨x2,i1,hF,rfl,h⟩
 rcases m1 with _|m1
 ·cases hF
 refine X0 5 rfl (qh rfl hF ?_ ?_)<;>intro hF
 ·refine zKSBSR ?_
  obtain ⟨y1,hy1,hF,he1,b2,_,q1,cs2,hp1,hq1,hr2,hc3⟩:=(h.sl 0 rfl).1.ix hF
  obtain rfl:=qgu hr2
  refine zx hp1 hq1 ⟨he1.1,qU he1.2.1 (h.sl 0 rfl).2⟩ rfl (zc 0 hc3 rfl (qm qa h rfl rfl rfl fun w5 bb2 h=>zs 0 h rfl fun w6 h=>X1 7 0 h rfl (qh rfl hF ?_ ?_)))<;>intro hF
  ·refine X1 4 0 h rfl ?_
   obtain ⟨y2,hy2,hF,he2,b3,_,q2,cs3,hp2,hq2,rfl,hc5⟩:=(h.sl 2 rfl).1.ix hF
   refine zx hp2 hq2 ⟨he2.1,qU he2.2.1 (h.sl 2 rfl).2⟩ rfl (zc 0 hc5 rfl (zp1 rfl ?_))
   obtain ⟨y3,hy3,hF,he3,b4,_,q3,cs4,hp3,hq3,rfl,hc6⟩:=(h.sl 2 rfl).1.ix hF
   refine zx hp3 hq3 ⟨he3.1,qU he3.2.1 (h.sl 2 rfl).2⟩ rfl (qbu qa 2 0 (W64 (y2+1)) h rfl hy3 hp3 hq3 rfl hc6 rfl rfl rfl rfl rfl rfl rfl fun w7 h=>X0 6 rfl ?_)
   replace h:=h.pick [1,2,3] rfl
   exact rK ⟨_,_,hF,rfl,h⟩ rfl
  refine X0 6 rfl ?_
  replace h:=h.pick [1,2,3] rfl
  exact rK ⟨_,_,hF,rfl,h⟩ rfl
 refine qu rfl ?_
 obtain rfl:=qb hF;replace hF:=hK1
 refine X1 8 2 h rfl ?_
 obtain ⟨o2,hF,hK2⟩:=qc hF
 refine ql ?_
 replace h:=h.pick [1] rfl
 refine rL (fun m e w'=>∃ (i2:Int),qey b x2 m i2=some o2∧e=[(3,.slice p6 x1.length x1.length),(48,.slice p5 b.Ac.length k5),(49,.int .i64 (b.Ac.length:Int)),(50,.int .i64 i2)]∧SH w w' [Ch.own S1 (x2:List Int) [.slice p6 x1.length x1.length]]) n ⟨_,hF,rfl,h⟩ rfl ?_
 rintro m2 e2 w8 ⟨i2,hF,rfl,h⟩
 rcases m2 with _|m2
 ·cases hF
 refine X0 5 rfl (qh rfl hF ?_ ?_)<;>intro hF
 ·refine X0 6 rfl ?_
  obtain ⟨y4,hy4,hF,he4,b5,_,q4,cs5,hp4,hq4,hr5,hc8⟩:=s5.ix hF
  obtain ⟨p8,k7,p9,k8,p10,k9,p11,k10,rfl,s6,s7,s8,s9⟩:=qaL hr5
  refine zxe hp4 hq4 he4 rfl (zc 0 (hc8.below h.below) rfl (qm qa h rfl rfl rfl fun w9 bb3 h=>zp1 rfl (zs 0 h rfl fun w10 h=>zNS (rD (Y1 1 0 h rfl ?_)))))
  refine zd2 rfl ?_
  obtain ⟨y5,hy5,hF,he5,b6,_,q5,cs6,hp5,hq5,rfl,hc9⟩:=(h.sl 1 rfl).1.ix hF
  refine zdx hp5 hq5 ⟨he5.1,qU he5.2.1 (h.sl 1 rfl).2⟩ rfl (zdc 0 hc9 rfl ?_)
  obtain ⟨r2,hr7,hF⟩:=qc hF
  refine qaO r2 (vsB _) (cB 213 rfl) (fun _ hb=>qqc (qjZ y4 ((h.ext hb).oldS s6) ((h.ext hb).oldS s7) ((h.ext hb).oldS s8) ((h.ext hb).oldS s9)) hr7) rfl rfl rfl rfl (zd1 rfl (dN h fun w11 h=>qh rfl hF ?_ ?_))<;>intro hF
  ·refine X0 4 rfl ?_
   obtain rfl:=qb hF;replace hF:=hK2
   exact rb h hF rfl
  refine X0 6 rfl ?_
  replace h:=h.pick [1] rfl
  exact rK ⟨_,hF,rfl,h⟩ rfl
 refine qu rfl ?_
 obtain rfl:=qb hF;replace hF:=hK2
 exact X0 4 rfl (rb h hF rfl)
end Go.Fw


namespace Go.Fw
open Go
def qcy (a:(List Int)):Nat:=a.length
theorem qde {a:(List Int)} (h:(rngL rngI) a) (w:qcy a≤1048576):(okL okI) a :=
 ⟨by simp only [qcy] at w;omega,fun x hx=>h.2 x hx⟩
def qhK (x:qv):Prop:=(rngL rngI) x.Bm∧(rngL rngI) x.Bj∧(rngL rngI) x.Bh
def qfy (x:qv):Nat:=qcy x.Bm+qcy x.Bj+qcy x.Bh
structure qio (x:qv):Prop where
 Bm:(okL okI) x.Bm
 Bj:(okL okI) x.Bj
 Bh:(okL okI) x.Bh
theorem qtF {x:qv} (h:qhK x) (w:qfy x≤1048576):qio x:=⟨qde (h.1) (by simp only [qfy] at w;omega),qde (h.2.1) (by simp only [qfy] at w;omega),qde (h.2.2) (by simp only [qfy] at w;omega)⟩
def qfN (a:(List qv)):Nat:=a.length+(a.map fun x=>qfy x).sum
theorem qpe {a:(List qv)} (h:(rngL qhK) a) (w:qfN a≤1048576):(okL qio) a :=
 ⟨by simp only [qfN] at w;omega,fun x hx=>qtF (h.2 x hx) (by have:=qep (wt:=fun x:qv=>qfy x) hx;simp only [qfN] at w;omega)⟩
def qlO (x:qP):Prop:=rngI x.Bf∧rngI x.Bk∧rngI x.To∧rngI x.Bn∧(rngL qhK) x.Bp∧(rngL qhK) x.Bc
def qkR (x:qP):Nat:=qfN x.Bp+qfN x.Bc
structure qnF (x:qP):Prop where
 Bf:okI x.Bf
 Bk:okI x.Bk
 To:okI x.To
 Bn:okI x.Bn
 Bp:(okL qio) x.Bp
 Bc:(okL qio) x.Bc
theorem qwr {x:qP} (h:qlO x) (w:qkR x≤1048576):qnF x:=⟨h.1,h.2.1,h.2.2.1,h.2.2.2.1,qpe (h.2.2.2.2.1) (by simp only [qkR] at w;omega),qpe (h.2.2.2.2.2) (by simp only [qkR] at w;omega)⟩
theorem qfg {a:(List Int)} (h:qcy a≤1048576):Ev (fun n=>qbk n a a) true:=by
 have hl:a.length≤1048576:=by simp only [qcy] at h;omega
 unfold qbk
 exact Ev.ff (by simp) (Ev.bind (b:=.nxt (a.length:Int)) (qiL (eqf:=fun _ x y=>some (!(x != y))) (fun x _=>Ev.now (by simp))
  (fun n=>by simp only [qfc,qk (jb _),cond_false])
  (fun n j x hx=>by
   have hj:=(List.getElem?_eq_some_iff.1 hx).1
   simp only [qfc,qj hj,cond_true,qax hx,ja,Bool.not_not,wS j])) .done)
theorem qwt {a:qv} (h:qfy a≤1048576):Ev (fun n=>qhW n a a) true:=by
 unfold qhW
 simp only [qfy] at h
 exact Ev.bind (qfg (a:=a.Bm) (by omega)) (Ev.ff rfl (Ev.bind (qfg (a:=a.Bj) (by omega)) (Ev.ff rfl (Ev.bind (qfg (a:=a.Bh) (by omega)) (Ev.ff rfl (.done))))))
theorem qry {a:(List qv)} (h:qfN a≤1048576):Ev (fun n=>qhb n a a) true:=by
 have hl:a.length≤1048576:=by simp only [qfN] at h;omega
 unfold qhb
 exact Ev.ff (by simp) (Ev.bind (b:=.nxt (a.length:Int)) (qiL (eqf:=qhW) (fun x hx=>qwt (by have:=qep (wt:=fun x:qv=>qfy x) hx;simp only [qfN] at h;omega))
  (fun n=>by simp only [qff,qk (jb _),cond_false])
  (fun n j x hx=>by
   have hj:=(List.getElem?_eq_some_iff.1 hx).1
   simp only [qff,qj hj,cond_true,qax hx,ja,wS j])) .done)
theorem qyf {a:qP} (h:qkR a≤1048576):Ev (fun n=>qkn n a a) true:=by
 unfold qkn
 simp only [qkR] at h
 exact Ev.ff qaV (Ev.ff qaV (Ev.ff qaV (Ev.ff qaV (Ev.bind (qry (a:=a.Bp) (by omega)) (Ev.ff rfl (Ev.bind (qry (a:=a.Bc) (by omega)) (Ev.ff rfl (.done))))))))
def qj9 (a:(List qP)):Nat:=a.length+(a.map fun x=>qkR x).sum
theorem quJ {a:(List qP)} (h:(rngL qlO) a) (w:qj9 a≤1048576):(okL qnF) a :=
 ⟨by simp only [qj9] at w;omega,fun x hx=>qwr (h.2 x hx) (by have:=qep (wt:=fun x:qP=>qkR x) hx;simp only [qj9] at w;omega)⟩
theorem qw2 {a:(List qP)} (h:qj9 a≤1048576):Ev (fun n=>qkY n a a) true:=by
 have hl:a.length≤1048576:=by simp only [qj9] at h;omega
 unfold qkY
 exact Ev.ff (by simp) (Ev.bind (b:=.nxt (a.length:Int)) (qiL (eqf:=qkn) (fun x hx=>qyf (by have:=qep (wt:=fun x:qP=>qkR x) hx;simp only [qj9] at h;omega))
  (fun n=>by simp only [qgh,qk (jb _),cond_false])
  (fun n j x hx=>by
   have hj:=(List.getElem?_eq_some_iff.1 hx).1
   simp only [qgh,qj hj,cond_true,qax hx,ja,wS j])) .done)
def ql0 (x:qaq):Prop:=rngS x.Bb∧rngI x.Bv∧rngI x.Bt∧rngB x.Bq
def qmx (x:qaq):Nat:=x.Bb.size
structure qms (x:qaq):Prop where
 Bb:okS x.Bb
 Bv:okI x.Bv
 Bt:okI x.Bt
 Bq:okT x.Bq
theorem qwF {x:qaq} (h:ql0 x) (w:qmx x≤1048576):qms x:=⟨(by unfold okS;simp only [qmx] at w;omega),h.2.1,h.2.2.1,trivial⟩
def qj3 (a:(List qaq)):Nat:=a.length+(a.map fun x=>qmx x).sum
theorem quU {a:(List qaq)} (h:(rngL ql0) a) (w:qj3 a≤1048576):(okL qms) a :=
 ⟨by simp only [qj3] at w;omega,fun x hx=>qwF (h.2 x hx) (by have:=qep (wt:=fun x:qaq=>qmx x) hx;simp only [qj3] at w;omega)⟩
def qj8 (x:qB):Prop:=rngS x.Bb∧rngI x.Bf∧(rngL ql0) x.Be∧(rngL qlO) x.Au∧(rngL rngI) x.Br∧rngI x.Ca∧rngI x.Bu
def qg2 (x:qB):Nat:=x.Bb.size+qj3 x.Be+qj9 x.Au+qcy x.Br
structure qm6 (x:qB):Prop where
 Bb:okS x.Bb
 Bf:okI x.Bf
 Be:(okL qms) x.Be
 Au:(okL qnF) x.Au
 Br:(okL okI) x.Br
 Ca:okI x.Ca
 Bu:okI x.Bu
theorem quF {x:qB} (h:qj8 x) (w:qg2 x≤1048576):qm6 x:=⟨(by unfold okS;simp only [qg2] at w;omega),h.2.1,quU (h.2.2.1) (by simp only [qg2] at w;omega),quJ (h.2.2.2.1) (by simp only [qg2] at w;omega),qde (h.2.2.2.2.1) (by simp only [qg2] at w;omega),h.2.2.2.2.2.1,h.2.2.2.2.2.2⟩
def qik (a:(List qB)):Nat:=a.length+(a.map fun x=>qg2 x).sum
theorem qtZ {a:(List qB)} (h:(rngL qj8) a) (w:qik a≤1048576):(okL qm6) a :=
 ⟨by simp only [qik] at w;omega,fun x hx=>quF (h.2 x hx) (by have:=qep (wt:=fun x:qB=>qg2 x) hx;simp only [qik] at w;omega)⟩
def qkI (x:qp):Prop:=(rngL qj8) x.Aq
def qgJ (x:qp):Nat:=qik x.Aq
structure qhv (x:qp):Prop where
 Aq:(okL qm6) x.Aq
theorem qsh {x:qp} (h:qkI x) (w:qgJ x≤1048576):qhv x:=⟨qtZ (h) (by simp only [qgJ] at w;omega)⟩
def qfv (x:qn):Prop:=rngS x.Bb∧rngI x.Bs∧(rngL rngI) x.Am
def qcx (x:qn):Nat:=x.Bb.size+qcy x.Am
structure qmJ (x:qn):Prop where
 Bb:okS x.Bb
 Bs:okI x.Bs
 Am:(okL okI) x.Am
theorem qqS {x:qn} (h:qfv x) (w:qcx x≤1048576):qmJ x:=⟨(by unfold okS;simp only [qcx] at w;omega),h.2.1,qde (h.2.2) (by simp only [qcx] at w;omega)⟩
def qdg (a:(List qn)):Nat:=a.length+(a.map fun x=>qcx x).sum
theorem qqG {a:(List qn)} (h:(rngL qfv) a) (w:qdg a≤1048576):(okL qmJ) a :=
 ⟨by simp only [qdg] at w;omega,fun x hx=>qqS (h.2 x hx) (by have:=qep (wt:=fun x:qn=>qcx x) hx;simp only [qdg] at w;omega)⟩
def qgP (a:(List ByteArray)):Nat:=a.length+(a.map fun x=>x.size).sum
theorem qsg {a:(List ByteArray)} (_:(rngL rngS) a) (w:qgP a≤1048576):(okL okS) a :=
 ⟨by simp only [qgP] at w;omega,fun x hx=>(by unfold okS;have:=qep (wt:=fun x:ByteArray=>x.size) hx;simp only [qgP] at w;omega)⟩
def qku (x:qam):Prop:=rngS x.Bb∧rngI x.Bv∧rngI x.Bx
def qkw (x:qam):Nat:=x.Bb.size
structure qsq (x:qam):Prop where
 Bb:okS x.Bb
 Bv:okI x.Bv
 Bx:okI x.Bx
theorem qu2 {x:qam} (h:qku x) (w:qkw x≤1048576):qsq x:=⟨(by unfold okS;simp only [qkw] at w;omega),h.2.1,h.2.2⟩
def qhX (a:(List qam)):Nat:=a.length+(a.map fun x=>qkw x).sum
theorem qt9 {a:(List qam)} (h:(rngL qku) a) (w:qhX a≤1048576):(okL qsq) a :=
 ⟨by simp only [qhX] at w;omega,fun x hx=>qu2 (h.2 x hx) (by have:=qep (wt:=fun x:qam=>qkw x) hx;simp only [qhX] at w;omega)⟩
def qlT (x:qd):Prop:=(rngL qfv) x.Aa∧(rngL rngS) x.Am∧(rngL qku) x.Aj
def qgz (x:qd):Nat:=qdg x.Aa+qgP x.Am+qhX x.Aj
structure qjW (x:qd):Prop where
 Aa:(okL qmJ) x.Aa
 Am:(okL okS) x.Am
 Aj:(okL qsq) x.Aj
theorem qsw {x:qd} (h:qlT x) (w:qgz x≤1048576):qjW x:=⟨qqG (h.1) (by simp only [qgz] at w;omega),qsg (h.2.1) (by simp only [qgz] at w;omega),qt9 (h.2.2) (by simp only [qgz] at w;omega)⟩
def qkp (x:qQ):Prop:=(rngL rngI) x.Ak∧(rngL rngI) x.Bw∧(rngL rngI) x.Bt∧(rngL rngI) x.Bl
def qgY (x:qQ):Nat:=qcy x.Ak+qcy x.Bw+qcy x.Bt+qcy x.Bl
structure qn0 (x:qQ):Prop where
 Ak:(okL okI) x.Ak
 Bw:(okL okI) x.Bw
 Bt:(okL okI) x.Bt
 Bl:(okL okI) x.Bl
theorem qu0 {x:qQ} (h:qkp x) (w:qgY x≤1048576):qn0 x:=⟨qde (h.1) (by simp only [qgY] at w;omega),qde (h.2.1) (by simp only [qgY] at w;omega),qde (h.2.2.1) (by simp only [qgY] at w;omega),qde (h.2.2.2) (by simp only [qgY] at w;omega)⟩
def qhO (a:(List qQ)):Nat:=a.length+(a.map fun x=>qgY x).sum
theorem qto {a:(List qQ)} (h:(rngL qkp) a) (w:qhO a≤1048576):(okL qn0) a :=
 ⟨by simp only [qhO] at w;omega,fun x hx=>qu0 (h.2 x hx) (by have:=qep (wt:=fun x:qQ=>qgY x) hx;simp only [qhO] at w;omega)⟩
def qnf (x:qf):Prop:=qkI x.Av∧qlT x.Ab∧(rngL qkp) x.Ac
def qia (x:qf):Nat:=qgJ x.Av+qgz x.Ab+qhO x.Ac
structure qlB (x:qf):Prop where
 Av:qhv x.Av
 Ab:qjW x.Ab
 Ac:(okL qn0) x.Ac
theorem qub {x:qf} (h:qnf x) (w:qia x≤1048576):qlB x:=⟨qsh (h.1) (by simp only [qia] at w;omega),qsw (h.2.1) (by simp only [qia] at w;omega),qto (h.2.2) (by simp only [qia] at w;omega)⟩
theorem qx7 {a:qaq} (_:qmx a≤1048576):Ev (fun n=>qkh n a a) true:=by
 unfold qkh
 exact Ev.ff qhY (Ev.ff qaV (Ev.ff qaV (Ev.ff qrV (.done))))
theorem qxN {a:(List qaq)} (h:qj3 a≤1048576):Ev (fun n=>qkC n a a) true:=by
 have hl:a.length≤1048576:=by simp only [qj3] at h;omega
 unfold qkC
 exact Ev.ff (by simp) (Ev.bind (b:=.nxt (a.length:Int)) (qiL (eqf:=qkh) (fun x hx=>qx7 (by have:=qep (wt:=fun x:qaq=>qmx x) hx;simp only [qj3] at h;omega))
  (fun n=>by simp only [qgy,qk (jb _),cond_false])
  (fun n j x hx=>by
   have hj:=(List.getElem?_eq_some_iff.1 hx).1
   simp only [qgy,qj hj,cond_true,qax hx,ja,wS j])) .done)
theorem qxd {a:qB} (h:qg2 a≤1048576):Ev (fun n=>qjm n a a) true:=by
 unfold qjm
 simp only [qg2] at h
 exact Ev.ff qhY (Ev.ff qaV (Ev.bind (qxN (a:=a.Be) (by omega)) (Ev.ff rfl (Ev.bind (qw2 (a:=a.Au) (by omega)) (Ev.ff rfl (Ev.bind (qfg (a:=a.Br) (by omega)) (Ev.ff rfl (Ev.ff qaV (Ev.ff qaV (.done))))))))))
theorem qwc {a:(List qB)} (h:qik a≤1048576):Ev (fun n=>qjK n a a) true:=by
 have hl:a.length≤1048576:=by simp only [qik] at h;omega
 unfold qjK
 exact Ev.ff (by simp) (Ev.bind (b:=.nxt (a.length:Int)) (qiL (eqf:=qjm) (fun x hx=>qxd (by have:=qep (wt:=fun x:qB=>qg2 x) hx;simp only [qik] at h;omega))
  (fun n=>by simp only [qfK,qk (jb _),cond_false])
  (fun n j x hx=>by
   have hj:=(List.getElem?_eq_some_iff.1 hx).1
   simp only [qfK,qj hj,cond_true,qax hx,ja,wS j])) .done)
theorem qt4 {a:qp} (h:qgJ a≤1048576):Ev (fun n=>qhV n a a) true:=by
 unfold qhV
 simp only [qgJ] at h
 exact Ev.bind (qwc (a:=a.Aq) (by omega)) (Ev.ff rfl (.done))
theorem qsC {a:qn} (h:qcx a≤1048576):Ev (fun n=>qfV n a a) true:=by
 unfold qfV
 simp only [qcx] at h
 exact Ev.ff qhY (Ev.ff qaV (Ev.bind (qfg (a:=a.Am) (by omega)) (Ev.ff rfl (.done))))
theorem qse {a:(List qn)} (h:qdg a≤1048576):Ev (fun n=>qgC n a a) true:=by
 have hl:a.length≤1048576:=by simp only [qdg] at h;omega
 unfold qgC
 exact Ev.ff (by simp) (Ev.bind (b:=.nxt (a.length:Int)) (qiL (eqf:=qfV) (fun x hx=>qsC (by have:=qep (wt:=fun x:qn=>qcx x) hx;simp only [qdg] at h;omega))
  (fun n=>by simp only [qdJ,qk (jb _),cond_false])
  (fun n j x hx=>by
   have hj:=(List.getElem?_eq_some_iff.1 hx).1
   simp only [qdJ,qj hj,cond_true,qax hx,ja,wS j])) .done)
theorem qt3 {a:(List ByteArray)} (h:qgP a≤1048576):Ev (fun n=>qif n a a) true:=by
 have hl:a.length≤1048576:=by simp only [qgP] at h;omega
 unfold qif
 exact Ev.ff (by simp) (Ev.bind (b:=.nxt (a.length:Int)) (qiL (eqf:=fun _ x y=>some (!(x.toList != y.toList))) (fun x _=>Ev.now (by simp))
  (fun n=>by simp only [qeB,qk (jb _),cond_false])
  (fun n j x hx=>by
   have hj:=(List.getElem?_eq_some_iff.1 hx).1
   simp only [qeB,qj hj,cond_true,qax hx,ja,Bool.not_not,wS j])) .done)
theorem qxn {a:qam} (_:qkw a≤1048576):Ev (fun n=>qi2 n a a) true:=by
 unfold qi2
 exact Ev.ff qhY (Ev.ff qaV (Ev.ff qaV (.done)))
theorem qvI {a:(List qam)} (h:qhX a≤1048576):Ev (fun n=>qjO n a a) true:=by
 have hl:a.length≤1048576:=by simp only [qhX] at h;omega
 unfold qjO
 exact Ev.ff (by simp) (Ev.bind (b:=.nxt (a.length:Int)) (qiL (eqf:=qi2) (fun x hx=>qxn (by have:=qep (wt:=fun x:qam=>qkw x) hx;simp only [qhX] at h;omega))
  (fun n=>by simp only [qfO,qk (jb _),cond_false])
  (fun n j x hx=>by
   have hj:=(List.getElem?_eq_some_iff.1 hx).1
   simp only [qfO,qj hj,cond_true,qax hx,ja,wS j])) .done)
theorem qvz {a:qd} (h:qgz a≤1048576):Ev (fun n=>qiM n a a) true:=by
 unfold qiM
 simp only [qgz] at h
 exact Ev.bind (qse (a:=a.Aa) (by omega)) (Ev.ff rfl (Ev.bind (qt3 (a:=a.Am) (by omega)) (Ev.ff rfl (Ev.bind (qvI (a:=a.Aj) (by omega)) (Ev.ff rfl (.done))))))
theorem qxD {a:qQ} (h:qgY a≤1048576):Ev (fun n=>qiZ n a a) true:=by
 unfold qiZ
 simp only [qgY] at h
 exact Ev.bind (qfg (a:=a.Ak) (by omega)) (Ev.ff rfl (Ev.bind (qfg (a:=a.Bw) (by omega)) (Ev.ff rfl (Ev.bind (qfg (a:=a.Bt) (by omega)) (Ev.ff rfl (Ev.bind (qfg (a:=a.Bl) (by omega)) (Ev.ff rfl (.done))))))))
theorem qwO {a:(List qQ)} (h:qhO a≤1048576):Ev (fun n=>qjw n a a) true:=by
 have hl:a.length≤1048576:=by simp only [qhO] at h;omega
 unfold qjw
 exact Ev.ff (by simp) (Ev.bind (b:=.nxt (a.length:Int)) (qiL (eqf:=qiZ) (fun x hx=>qxD (by have:=qep (wt:=fun x:qQ=>qgY x) hx;simp only [qhO] at h;omega))
  (fun n=>by simp only [qfJ,qk (jb _),cond_false])
  (fun n j x hx=>by
   have hj:=(List.getElem?_eq_some_iff.1 hx).1
   simp only [qfJ,qj hj,cond_true,qax hx,ja,wS j])) .done)
theorem qwC {a:qf} (h:qia a≤1048576):Ev (fun n=>qjR n a a) true:=by
 unfold qjR
 simp only [qia] at h
 exact Ev.bind (qt4 (a:=a.Av) (by omega)) (Ev.ff rfl (Ev.bind (qvz (a:=a.Ab) (by omega)) (Ev.ff rfl (Ev.bind (qwO (a:=a.Ac) (by omega)) (Ev.ff rfl (.done))))))
theorem qfX {a:(List Int)} {left:Int} (h:(rngL rngI) a) (h0:0≤left) (h1:left≤1048576):Sz (fun n=>qbM n a left) (fun r=>r=left-(qcy a:Int)) :=
 Sz.less h0 h1 (by omega) (by have:=h.1;omega) (fun _=>rfl)
theorem qvF {a:qv} {left:Int} (h:qhK a) (h0:0≤left) (h1:left≤1048576):Sz (fun n=>qih n a left) (fun r=>r=left-(qfy a:Int)):=by
 unfold qih
 obtain ⟨h_0,h_1,h_2⟩:=h
 exact Sz.step (qfX (a:=a.Bm) h_0 (by omega) (by omega)) fun r0 p0 q0=>Sz.step (qfX (a:=a.Bj) h_1 (by omega) (by omega)) fun r1 p1 q1=>Sz.step (qfX (a:=a.Bh) h_2 (by omega) (by omega)) fun r2 p2 q2=>Sz.done p2 (by simp only [qfy];omega)
theorem qrm {a:(List qv)} {left:Int} (h:(rngL qhK) a) (h0:0≤left) (h1:left≤1048576):Sz (fun n=>qiR n a left) (fun r=>r=left-(qfN a:Int)) :=
 Sz.list (Lf:=qd8 a) (wt:=fun x:qv=>qfy x) (el:=qih) h0 h1 h.1 (fun x hx left p q=>qvF (h.2 x hx) p q)
  (fun acc n=>by simp only [qd8,qk (jb _),cond_false])
  (fun acc n j x hx=>by
   have hj:=(List.getElem?_eq_some_iff.1 hx).1
   have hl:=h.1
   simp only [qd8,qj hj,cond_true,qax hx,ja,wS j])
  (fun _=>rfl)
theorem qx9 {a:qP} {left:Int} (h:qlO a) (h0:0≤left) (h1:left≤1048576):Sz (fun n=>qj7 n a left) (fun r=>r=left-(qkR a:Int)):=by
 unfold qj7
 obtain ⟨h_0,h_1,h_2,h_3,h_4,h_5⟩:=h
 exact Sz.step (qrm (a:=a.Bp) h_4 (by omega) (by omega)) fun r0 p0 q0=>Sz.step (qrm (a:=a.Bc) h_5 (by omega) (by omega)) fun r1 p1 q1=>Sz.done p1 (by simp only [qkR];omega)
theorem qxg {a:(List qP)} {left:Int} (h:(rngL qlO) a) (h0:0≤left) (h1:left≤1048576):Sz (fun n=>qmK n a left) (fun r=>r=left-(qj9 a:Int)) :=
 Sz.list (Lf:=qfn a) (wt:=fun x:qP=>qkR x) (el:=qj7) h0 h1 h.1 (fun x hx left p q=>qx9 (h.2 x hx) p q)
  (fun acc n=>by simp only [qfn,qk (jb _),cond_false])
  (fun acc n j x hx=>by
   have hj:=(List.getElem?_eq_some_iff.1 hx).1
   have hl:=h.1
   simp only [qfn,qj hj,cond_true,qax hx,ja,wS j])
  (fun _=>rfl)
theorem qyy {a:qaq} {left:Int} (h:ql0 a) (h0:0≤left) (h1:left≤1048576):Sz (fun n=>qkv n a left) (fun r=>r=left-(qmx a:Int)):=by
 unfold qkv
 obtain ⟨h_0,h_1,h_2,h_3⟩:=h
 exact Sz.strStep h_0 (by omega) (by omega) fun p0 q0=>Sz.done p0 (by simp only [qmx];omega)
theorem qw3 {a:(List qaq)} {left:Int} (h:(rngL ql0) a) (h0:0≤left) (h1:left≤1048576):Sz (fun n=>qmS n a left) (fun r=>r=left-(qj3 a:Int)) :=
 Sz.list (Lf:=qe4 a) (wt:=fun x:qaq=>qmx x) (el:=qkv) h0 h1 h.1 (fun x hx left p q=>qyy (h.2 x hx) p q)
  (fun acc n=>by simp only [qe4,qk (jb _),cond_false])
  (fun acc n j x hx=>by
   have hj:=(List.getElem?_eq_some_iff.1 hx).1
   have hl:=h.1
   simp only [qe4,qj hj,cond_true,qax hx,ja,wS j])
  (fun _=>rfl)
theorem qwU {a:qB} {left:Int} (h:qj8 a) (h0:0≤left) (h1:left≤1048576):Sz (fun n=>qjf n a left) (fun r=>r=left-(qg2 a:Int)):=by
 unfold qjf
 obtain ⟨h_0,h_1,h_2,h_3,h_4,h_5,h_6⟩:=h
 exact Sz.strStep h_0 (by omega) (by omega) fun p0 q0=>Sz.step (qw3 (a:=a.Be) h_2 (by omega) (by omega)) fun r1 p1 q1=>Sz.step (qxg (a:=a.Au) h_3 (by omega) (by omega)) fun r2 p2 q2=>Sz.step (qfX (a:=a.Br) h_4 (by omega) (by omega)) fun r3 p3 q3=>Sz.done p3 (by simp only [qg2];omega)
theorem qwd {a:(List qB)} {left:Int} (h:(rngL qj8) a) (h0:0≤left) (h1:left≤1048576):Sz (fun n=>qlI n a left) (fun r=>r=left-(qik a:Int)) :=
 Sz.list (Lf:=qeu a) (wt:=fun x:qB=>qg2 x) (el:=qjf) h0 h1 h.1 (fun x hx left p q=>qwU (h.2 x hx) p q)
  (fun acc n=>by simp only [qeu,qk (jb _),cond_false])
  (fun acc n j x hx=>by
   have hj:=(List.getElem?_eq_some_iff.1 hx).1
   have hl:=h.1
   simp only [qeu,qj hj,cond_true,qax hx,ja,wS j])
  (fun _=>rfl)
theorem qtI {a:qp} {left:Int} (h:qkI a) (h0:0≤left) (h1:left≤1048576):Sz (fun n=>qic n a left) (fun r=>r=left-(qgJ a:Int)):=by
 unfold qic
 have h_0:=h
 exact Sz.step (qwd (a:=a.Aq) h_0 (by omega) (by omega)) fun r0 p0 q0=>Sz.done p0 (by simp only [qgJ];omega)
theorem qsE {a:qn} {left:Int} (h:qfv a) (h0:0≤left) (h1:left≤1048576):Sz (fun n=>qfM n a left) (fun r=>r=left-(qcx a:Int)):=by
 unfold qfM
 obtain ⟨h_0,h_1,h_2⟩:=h
 exact Sz.strStep h_0 (by omega) (by omega) fun p0 q0=>Sz.step (qfX (a:=a.Am) h_2 (by omega) (by omega)) fun r1 p1 q1=>Sz.done p1 (by simp only [qcx];omega)
theorem qsj {a:(List qn)} {left:Int} (h:(rngL qfv) a) (h0:0≤left) (h1:left≤1048576):Sz (fun n=>qix n a left) (fun r=>r=left-(qdg a:Int)) :=
 Sz.list (Lf:=qcJ a) (wt:=fun x:qn=>qcx x) (el:=qfM) h0 h1 h.1 (fun x hx left p q=>qsE (h.2 x hx) p q)
  (fun acc n=>by simp only [qcJ,qk (jb _),cond_false])
  (fun acc n j x hx=>by
   have hj:=(List.getElem?_eq_some_iff.1 hx).1
   have hl:=h.1
   simp only [qcJ,qj hj,cond_true,qax hx,ja,wS j])
  (fun _=>rfl)
theorem qtN {a:(List ByteArray)} {left:Int} (h:(rngL rngS) a) (h0:0≤left) (h1:left≤1048576):Sz (fun n=>qks n a left) (fun r=>r=left-(qgP a:Int)) :=
 Sz.list (Lf:=qdq a) (wt:=fun x:ByteArray=>x.size) (el:=fun _ (x:ByteArray) acc=>some (W64 (acc-(x.size:Int)))) h0 h1 h.1 (fun x hx left p q=>Sz.str (h.2 x hx) p q)
  (fun acc n=>by simp only [qdq,qk (jb _),cond_false])
  (fun acc n j x hx=>by
   have hj:=(List.getElem?_eq_some_iff.1 hx).1
   have hl:=h.1
   simp only [qdq,qj hj,cond_true,qax hx,ja,wS j])
  (fun _=>rfl)
theorem qxm {a:qam} {left:Int} (h:qku a) (h0:0≤left) (h1:left≤1048576):Sz (fun n=>qi7 n a left) (fun r=>r=left-(qkw a:Int)):=by
 unfold qi7
 obtain ⟨h_0,h_1,h_2⟩:=h
 exact Sz.strStep h_0 (by omega) (by omega) fun p0 q0=>Sz.done p0 (by simp only [qkw];omega)
theorem qvO {a:(List qam)} {left:Int} (h:(rngL qku) a) (h0:0≤left) (h1:left≤1048576):Sz (fun n=>qlP n a left) (fun r=>r=left-(qhX a:Int)) :=
 Sz.list (Lf:=qez a) (wt:=fun x:qam=>qkw x) (el:=qi7) h0 h1 h.1 (fun x hx left p q=>qxm (h.2 x hx) p q)
  (fun acc n=>by simp only [qez,qk (jb _),cond_false])
  (fun acc n j x hx=>by
   have hj:=(List.getElem?_eq_some_iff.1 hx).1
   have hl:=h.1
   simp only [qez,qj hj,cond_true,qax hx,ja,wS j])
  (fun _=>rfl)
theorem qvu {a:qd} {left:Int} (h:qlT a) (h0:0≤left) (h1:left≤1048576):Sz (fun n=>qiW n a left) (fun r=>r=left-(qgz a:Int)):=by
 unfold qiW
 obtain ⟨h_0,h_1,h_2⟩:=h
 exact Sz.step (qsj (a:=a.Aa) h_0 (by omega) (by omega)) fun r0 p0 q0=>Sz.step (qtN (a:=a.Am) h_1 (by omega) (by omega)) fun r1 p1 q1=>Sz.step (qvO (a:=a.Aj) h_2 (by omega) (by omega)) fun r2 p2 q2=>Sz.done p2 (by simp only [qgz];omega)
theorem qxh {a:qQ} {left:Int} (h:qkp a) (h0:0≤left) (h1:left≤1048576):Sz (fun n=>qi6 n a left) (fun r=>r=left-(qgY a:Int)):=by
 unfold qi6
 obtain ⟨h_0,h_1,h_2,h_3⟩:=h
 exact Sz.step (qfX (a:=a.Ak) h_0 (by omega) (by omega)) fun r0 p0 q0=>Sz.step (qfX (a:=a.Bw) h_1 (by omega) (by omega)) fun r1 p1 q1=>Sz.step (qfX (a:=a.Bt) h_2 (by omega) (by omega)) fun r2 p2 q2=>Sz.step (qfX (a:=a.Bl) h_3 (by omega) (by omega)) fun r3 p3 q3=>Sz.done p3 (by simp only [qgY];omega)
theorem qvA {a:(List qQ)} {left:Int} (h:(rngL qkp) a) (h0:0≤left) (h1:left≤1048576):Sz (fun n=>qlX n a left) (fun r=>r=left-(qhO a:Int)) :=
 Sz.list (Lf:=qew a) (wt:=fun x:qQ=>qgY x) (el:=qi6) h0 h1 h.1 (fun x hx left p q=>qxh (h.2 x hx) p q)
  (fun acc n=>by simp only [qew,qk (jb _),cond_false])
  (fun acc n j x hx=>by
   have hj:=(List.getElem?_eq_some_iff.1 hx).1
   have hl:=h.1
   simp only [qew,qj hj,cond_true,qax hx,ja,wS j])
  (fun _=>rfl)
theorem qv4 {a:qf} {left:Int} (h:qnf a) (h0:0≤left) (h1:left≤1048576):Sz (fun n=>qjC n a left) (fun r=>r=left-(qia a:Int)):=by
 unfold qjC
 obtain ⟨h_0,h_1,h_2⟩:=h
 exact Sz.step (qtI (a:=a.Av) h_0 (by omega) (by omega)) fun r0 p0 q0=>Sz.step (qvu (a:=a.Ab) h_1 (by omega) (by omega)) fun r1 p1 q1=>Sz.step (qvA (a:=a.Ac) h_2 (by omega) (by omega)) fun r2 p2 q2=>Sz.done p2 (by simp only [qia];omega)
theorem qdZ {a:(List Int)} (h:qcy a≤1048576):Ev (fun n=>qaP n a) a:=by
 have hl:a.length≤1048576:=by simp only [qcy] at h;omega
 unfold qaP
 exact Ev.bindN (qhT (by omega)) (Ev.bind (b:=(a,(a.length:Int))) (qiS (cp:=fun _ x=>some x) (fun _ _=>.done)
  (fun acc n=>by simp only [qfj,qk (jb _),cond_false])
  (fun acc n j x y hx hy=>by
   have hj:=(List.getElem?_eq_some_iff.1 hx).1
   simp only [qfj,qj hj,cond_true,qax hx,qax hy,ja,wS j])) .done)
theorem qvT {a:qv} (h:qfy a≤1048576):Ev (fun n=>qhM n a) a:=by
 unfold qhM
 simp only [qfy] at h
 exact Ev.bind (qdZ (a:=a.Bm) (by omega)) (Ev.bind (qdZ (a:=a.Bj) (by omega)) (Ev.bind (qdZ (a:=a.Bh) (by omega)) (.done)))
theorem qrK {a:(List qv)} (h:qfN a≤1048576):Ev (fun n=>qhg n a) a:=by
 have hl:a.length≤1048576:=by simp only [qfN] at h;omega
 unfold qhg
 exact Ev.bindN (qhT (by omega)) (Ev.bind (b:=(a,(a.length:Int))) (qiS (cp:=qhM) (fun x hx=>qvT (by have:=qep (wt:=fun x:qv=>qfy x) hx;simp only [qfN] at h;omega))
  (fun acc n=>by simp only [qe7,qk (jb _),cond_false])
  (fun acc n j x y hx hy=>by
   have hj:=(List.getElem?_eq_some_iff.1 hx).1
   simp only [qe7,qj hj,cond_true,qax hx,qax hy,ja,wS j])) .done)
theorem qx5 {a:qP} (h:qkR a≤1048576):Ev (fun n=>qkk n a) a:=by
 unfold qkk
 simp only [qkR] at h
 exact Ev.bind (qrK (a:=a.Bp) (by omega)) (Ev.bind (qrK (a:=a.Bc) (by omega)) (.done))
theorem qxa {a:(List qP)} (h:qj9 a≤1048576):Ev (fun n=>qk1 n a) a:=by
 have hl:a.length≤1048576:=by simp only [qj9] at h;omega
 unfold qk1
 exact Ev.bindN (qhT (by omega)) (Ev.bind (b:=(a,(a.length:Int))) (qiS (cp:=qkk) (fun x hx=>qx5 (by have:=qep (wt:=fun x:qP=>qkR x) hx;simp only [qj9] at h;omega))
  (fun acc n=>by simp only [qgk,qk (jb _),cond_false])
  (fun acc n j x y hx hy=>by
   have hj:=(List.getElem?_eq_some_iff.1 hx).1
   simp only [qgk,qj hj,cond_true,qax hx,qax hy,ja,wS j])) .done)
theorem qyw {a:qaq} (_:qmx a≤1048576):Ev (fun n=>qkt n a) a:=by
 unfold qkt
 exact .done
theorem qxx {a:(List qaq)} (h:qj3 a≤1048576):Ev (fun n=>qkF n a) a:=by
 have hl:a.length≤1048576:=by simp only [qj3] at h;omega
 unfold qkF
 exact Ev.bindN (qhT (by omega)) (Ev.bind (b:=(a,(a.length:Int))) (qiS (cp:=qkt) (fun x hx=>qyw (by have:=qep (wt:=fun x:qaq=>qmx x) hx;simp only [qj3] at h;omega))
  (fun acc n=>by simp only [qgx,qk (jb _),cond_false])
  (fun acc n j x y hx hy=>by
   have hj:=(List.getElem?_eq_some_iff.1 hx).1
   simp only [qgx,qj hj,cond_true,qax hx,qax hy,ja,wS j])) .done)
theorem qxz {a:qB} (h:qg2 a≤1048576):Ev (fun n=>qjj n a) a:=by
 unfold qjj
 simp only [qg2] at h
 exact Ev.bind (qxx (a:=a.Be) (by omega)) (Ev.bind (qxa (a:=a.Au) (by omega)) (Ev.bind (qdZ (a:=a.Br) (by omega)) (.done)))
theorem qvB {a:(List qB)} (h:qik a≤1048576):Ev (fun n=>qjT n a) a:=by
 have hl:a.length≤1048576:=by simp only [qik] at h;omega
 unfold qjT
 exact Ev.bindN (qhT (by omega)) (Ev.bind (b:=(a,(a.length:Int))) (qiS (cp:=qjj) (fun x hx=>qxz (by have:=qep (wt:=fun x:qB=>qg2 x) hx;simp only [qik] at h;omega))
  (fun acc n=>by simp only [qfP,qk (jb _),cond_false])
  (fun acc n j x y hx hy=>by
   have hj:=(List.getElem?_eq_some_iff.1 hx).1
   simp only [qfP,qj hj,cond_true,qax hx,qax hy,ja,wS j])) .done)
theorem qt5 {a:qp} (h:qgJ a≤1048576):Ev (fun n=>qh8 n a) a:=by
 unfold qh8
 simp only [qgJ] at h
 exact Ev.bind (qvB (a:=a.Aq) (by omega)) (.done)
theorem qs0 {a:qn} (h:qcx a≤1048576):Ev (fun n=>qfH n a) a:=by
 unfold qfH
 simp only [qcx] at h
 exact Ev.bind (qdZ (a:=a.Am) (by omega)) (.done)
theorem qrR {a:(List qn)} (h:qdg a≤1048576):Ev (fun n=>qgX n a) a:=by
 have hl:a.length≤1048576:=by simp only [qdg] at h;omega
 unfold qgX
 exact Ev.bindN (qhT (by omega)) (Ev.bind (b:=(a,(a.length:Int))) (qiS (cp:=qfH) (fun x hx=>qs0 (by have:=qep (wt:=fun x:qn=>qcx x) hx;simp only [qdg] at h;omega))
  (fun acc n=>by simp only [qdH,qk (jb _),cond_false])
  (fun acc n j x y hx hy=>by
   have hj:=(List.getElem?_eq_some_iff.1 hx).1
   simp only [qdH,qj hj,cond_true,qax hx,qax hy,ja,wS j])) .done)
theorem qtP {a:(List ByteArray)} (h:qgP a≤1048576):Ev (fun n=>qie n a) a:=by
 have hl:a.length≤1048576:=by simp only [qgP] at h;omega
 unfold qie
 exact Ev.bindN (qhT (by omega)) (Ev.bind (b:=(a,(a.length:Int))) (qiS (cp:=fun _ x=>some x) (fun _ _=>.done)
  (fun acc n=>by simp only [qeK,qk (jb _),cond_false])
  (fun acc n j x y hx hy=>by
   have hj:=(List.getElem?_eq_some_iff.1 hx).1
   simp only [qeK,qj hj,cond_true,qax hx,qax hy,ja,wS j])) .done)
theorem qxc {a:qam} (_:qkw a≤1048576):Ev (fun n=>qi0 n a) a:=by
 unfold qi0
 exact .done
theorem qwI {a:(List qam)} (h:qhX a≤1048576):Ev (fun n=>qjM n a) a:=by
 have hl:a.length≤1048576:=by simp only [qhX] at h;omega
 unfold qjM
 exact Ev.bindN (qhT (by omega)) (Ev.bind (b:=(a,(a.length:Int))) (qiS (cp:=qi0) (fun x hx=>qxc (by have:=qep (wt:=fun x:qam=>qkw x) hx;simp only [qhX] at h;omega))
  (fun acc n=>by simp only [qfL,qk (jb _),cond_false])
  (fun acc n j x y hx hy=>by
   have hj:=(List.getElem?_eq_some_iff.1 hx).1
   simp only [qfL,qj hj,cond_true,qax hx,qax hy,ja,wS j])) .done)
theorem quY {a:qd} (h:qgz a≤1048576):Ev (fun n=>qiK n a) a:=by
 unfold qiK
 simp only [qgz] at h
 exact Ev.bind (qrR (a:=a.Aa) (by omega)) (Ev.bind (qtP (a:=a.Am) (by omega)) (Ev.bind (qwI (a:=a.Aj) (by omega)) (.done)))
theorem qw5 {a:qQ} (h:qgY a≤1048576):Ev (fun n=>qji n a) a:=by
 unfold qji
 simp only [qgY] at h
 exact Ev.bind (qdZ (a:=a.Ak) (by omega)) (Ev.bind (qdZ (a:=a.Bw) (by omega)) (Ev.bind (qdZ (a:=a.Bt) (by omega)) (Ev.bind (qdZ (a:=a.Bl) (by omega)) (.done))))
theorem qv1 {a:(List qQ)} (h:qhO a≤1048576):Ev (fun n=>qjF n a) a:=by
 have hl:a.length≤1048576:=by simp only [qhO] at h;omega
 unfold qjF
 exact Ev.bindN (qhT (by omega)) (Ev.bind (b:=(a,(a.length:Int))) (qiS (cp:=qji) (fun x hx=>qw5 (by have:=qep (wt:=fun x:qQ=>qgY x) hx;simp only [qhO] at h;omega))
  (fun acc n=>by simp only [qfQ,qk (jb _),cond_false])
  (fun acc n j x y hx hy=>by
   have hj:=(List.getElem?_eq_some_iff.1 hx).1
   simp only [qfQ,qj hj,cond_true,qax hx,qax hy,ja,wS j])) .done)
theorem qwi {a:qf} (h:qia a≤1048576):Ev (fun n=>qjH n a) a:=by
 unfold qjH
 simp only [qia] at h
 exact Ev.bind (qt5 (a:=a.Av) (by omega)) (Ev.bind (quY (a:=a.Ab) (by omega)) (Ev.bind (qv1 (a:=a.Ac) (by omega)) (.done)))
end Go.Fw


namespace Go.Fw
open Go
set_option maxRecDepth 100000
theorem qcF {n:Nat} {x lo hi:Int}:qap n x lo hi=some (inI x lo hi):=by
 simp only [qap,qmF,qol];rfl
theorem qcY {n:Nat} {x lo hi:Int}:qaG n x lo hi=some (inI x lo hi):=by
 simp only [qaG,qmF,qol];rfl
def bt (s:ByteArray) (j:Nat):Nat:=(s.data.toList.getD j 0).toNat
theorem qvR {s:ByteArray} {j:Nat} (h:j<s.size):atS s (j:Int)=some (bt s j:Int):=by
 have h':j<s.data.size:=h
 have hl:j<s.data.toList.length:=by simpa using h'
 unfold atS
 rw [if_pos (by omega),jj]
 have:s[j]?=some (s.data.toList.getD j 0):=by
  rw [getElem?_pos s j h,jz,jf hl]
  rfl
 rw [this]
 rfl
def letB (b:Nat):Bool:=decide (97≤b)&&decide (b≤122)
def digB (b:Nat):Bool:=decide (48≤b)&&decide (b≤57)
def chB (s:ByteArray) (j:Nat):Bool:=letB (bt s j) || digB (bt s j)&&decide (0<j)
def nameB (s:ByteArray):Bool:=(decide (1≤s.size)&&decide (s.size≤8))&&allN (chB s) s.size
theorem qlS {s:ByteArray} (h:okS s):Ev (fun n=>qfw n s) (nameB s):=by
 unfold okS at h
 have hL:Ev (fun n=>qdw s n 0) (bif allN (chB s) s.size then .nxt (s.size:Int) else .ret false):=by
  refine qeb ?_ (fun j hj X hX=>?_)
  ·exact Ev.succ (by simp only [qdw,qk (jb _),cond_false];exact .done)
  ·refine Ev.succ ?_
   simp only [qdw,qj hj,cond_true,qvR hj,ja,qmF,qol,wS j]
   have e1:(decide ((bt s j:Int) ≥ 97)&&decide ((bt s j:Int)≤122))=letB (bt s j):=by unfold letB;rw [jh];simp;omega
   have e2:(decide ((bt s j:Int) ≥ 48)&&decide ((bt s j:Int)≤57))=digB (bt s j):=by unfold digB;rw [jh];simp;omega
   have e3:decide ((j:Int) > 0)=decide (0<j):=by rw [jh];simp
   rw [e1,e2,e3]
   unfold chB
   cases letB (bt s j)<;>cases digB (bt s j)<;>cases decide (0<j)<;>first|exact hX|exact .done
 unfold qfw
 refine Ev.cast (r:=bif allN (chB s) s.size then (decide (1≤s.size)&&decide (s.size≤8)) else false) (Ev.bindB hL (fun _=>?_) (fun _=>.done)) ?_
 ·simp only [qmF,qol]
  exact Ev.now (by congr 1;rw [jh];simp;omega)
 ·unfold nameB
  cases allN (chB s) s.size<;>simp
def cutset:List UInt8:=[97,98,99,100,101,102,103,104,105,106,107,108,109,110,111,112,113,114,115,116,117,118,119,120,121,122,48,49,50,51,52,53,54,55,56,57]
theorem qp8 (b:UInt8):cutset.contains b=(letB b.toNat || digB b.toNat):=by
 have h0:(List.range 256).all (fun m=>cutset.contains (UInt8.ofNat m)==(letB (UInt8.ofNat m).toNat || digB (UInt8.ofNat m).toNat))=true:=by kernel_rfl
 have h:=List.all_eq_true.1 h0 b.toNat (List.mem_range.2 b.toNat_lt)
 rw [beq_iff_eq] at h
 simpa using h
def letters:List UInt8:=[97,98,99,100,101,102,103,104,105,106,107,108,109,110,111,112,113,114,115,116,117,118,119,120,121,122]
theorem qtD (m:Nat) (hm:m<256):decide ((Lib.indexByte letters m.toUInt8) ≥ 0)=letB m:=by
 have h0:(List.range 256).all (fun m=>decide ((Lib.indexByte letters m.toUInt8) ≥ 0)==letB m)=true:=by kernel_rfl
 have h:=List.all_eq_true.1 h0 m (List.mem_range.2 hm)
 rwa [beq_iff_eq] at h
theorem qqY {α:Type} {p:α→Bool} {l:List α}:l.dropWhile p=[]↔∀ x,x ∈ l→p x=true:=by
 induction l with
 | nil=>simp
 | cons y l ih =>
  rw [List.dropWhile_cons]
  by_cases h:p y=true
  ·rw [if_pos h,ih];simp [h]
  ·rw [if_neg h];simp [h]
theorem qq4 {α:Type} {p:α→Bool} {l:List α} (h:∀ x,x ∈ l.dropWhile p→p x=true):∀ x,x ∈ l→p x=true:=by
 induction l with
 | nil=>simp
 | cons y l ih =>
  rw [List.dropWhile_cons] at h
  by_cases hy:p y=true
  ·rw [if_pos hy] at h
   intro x hx
   rcases List.mem_cons.1 hx with rfl|hx
   ·exact hy
   ·exact ih h x hx
  ·rw [if_neg hy] at h
   exact h
theorem qvK {l cs:List UInt8}:Lib.trimS l cs=[]↔∀ x,x ∈ l→cs.contains x=true:=by
 unfold Lib.trimS Lib.trimRightS Lib.trimLeftS
 rw [qqY]
 constructor
 ·intro h x hx
  exact qq4 (p:=(cs.contains ·)) (l:=l.reverse) (fun y hy=>h y (List.mem_reverse.2 hy)) x (List.mem_reverse.2 hx)
 ·intro h x hx
  exact h x (List.mem_reverse.1 ((List.dropWhile_suffix _).subset (List.mem_reverse.1 hx)))
theorem qg5 {a b:ByteArray}:(a.toList==b.toList)=decide (a=b):=by
 rw [jh,beq_iff_eq,decide_eq_true_iff]
 constructor
 ·intro h
  exact ByteArray.ext (by have:=congrArg List.toArray h;simpa [ByteArray.toList_eq] using this)
 ·rintro rfl;rfl
end Go.Fw


namespace Go.Fw
open Go
set_option maxRecDepth 100000
theorem qxT {s:ByteArray} {j:Nat} (h:j<s.data.toList.length):bt s j=(s.data.toList[j]).toNat:=by
 unfold bt;rw [jz,jf h];rfl
theorem qyB {s:ByteArray} {j:Nat}:bt s j<256:=UInt8.toNat_lt _
theorem qoE {n:Nat} {s:ByteArray} (h:okS s):qhJ n s=some (nameB s):=by
 unfold okS at h
 have hl:s.data.toList.length=s.size:=by simp
 simp only [qhJ,qcY,ja]
 cases hI:inI (s.size:Int) 1 8 with
 | false =>
  have hs:(decide (1≤s.size)&&decide (s.size≤8))=false:=by rw [qvf] at hI;rw [Bool.and_eq_false_iff,decide_eq_false_iff_not,decide_eq_false_iff_not];omega
  simp [nameB,hs]
 | true =>
  have hs:1≤s.size∧s.size≤8:=by rw [qa7] at hI;omega
  have hT:qh4 n s (⟨#[97,98,99,100,101,102,103,104,105,106,107,108,109,110,111,112,113,114,115,116,117,118,119,120,121,122,48,49,50,51,52,53,54,55,56,57]⟩:ByteArray)=some ⟨(Lib.trimS s.data.toList cutset).toArray⟩:=by
   unfold qh4
   rw [if_pos ⟨by omega,by decide,by decide⟩]
   rfl
  rw [hT]
  simp only [cond_true,ja]
  have hE:(((⟨(Lib.trimS s.data.toList cutset).toArray⟩:ByteArray).toList==(⟨#[]⟩:ByteArray).toList))=allN (fun j=>letB (bt s j) || digB (bt s j)) s.size:=by
   rw [qg5,jh,decide_eq_true_iff,qah]
   have:((⟨(Lib.trimS s.data.toList cutset).toArray⟩:ByteArray)=⟨#[]⟩)↔Lib.trimS s.data.toList cutset=[]:=by
    constructor
    ·intro he
     have:=congrArg (fun x:ByteArray=>x.data.toList) he
     simpa using this
    ·intro he;rw [he]
   rw [this,qvK]
   constructor
   ·intro hx j hj
    have hj':j<s.data.toList.length:=by omega
    have:=hx _ (jo hj')
    rw [qp8,←qxT hj'] at this
    exact this
   ·intro hx x hm
    obtain ⟨j,hj,rfl⟩:=jO hm
    have:=hx j (by omega)
    rw [qp8,←qxT hj]
    exact this
  rw [hE]
  have h0:atS s 0=some (bt s 0:Int):=qvR (j:=0) (by omega)
  have hI2:decide (Lib.indexByte letters (bt s 0:Int).toNat.toUInt8 ≥ 0)=letB (bt s 0):=by
   rw [jj];exact qtD _ qyB
  have hF:∀ b:Bool,(bif b then (atS s 0).bind fun y1=>(qga n (⟨#[97,98,99,100,101,102,103,104,105,106,107,108,109,110,111,112,113,114,115,116,117,118,119,120,121,122]⟩:ByteArray) (⟨y1⟩:IntK .u8)).bind fun r3=>some (decide (r3 ≥ 0)) else some false)=some (b&&letB (bt s 0)):=by
   intro b
   cases b with
   | false=>rfl
   | true =>
    rw [h0]
    simp only [cond_true,ja,qga,jw]
    exact congrArg some hI2
  rw [hF]
  congr 1
  have hs':(decide (1≤s.size)&&decide (s.size≤8))=true:=by simp [hs]
  unfold nameB
  rw [hs',jw,jh,jc,qah,qah]
  simp only [chB,Bool.or_eq_true,jc,decide_eq_true_eq]
  constructor
  ·rintro ⟨h1,h2⟩ j hj
   rcases Nat.eq_zero_or_pos j with rfl|hp
   ·exact .inl h2
   ·exact (h1 j hj).imp id (fun h=>⟨h,hp⟩)
  ·intro h1
   refine ⟨fun j hj=>(h1 j hj).imp id (fun h=>h.1),?_⟩
   rcases h1 0 (by omega) with h2|h2
   ·exact h2
   ·omega
def strAt (xs:List ByteArray) (j:Nat):ByteArray:=xs.getD j ByteArray.empty
theorem qnR {xs:List ByteArray} {j:Nat} (h:j<xs.length):strAt xs j=xs[j]:=by simp [strAt,h]
theorem qpW {xs:List ByteArray} {j:Nat} (h:j<xs.length):idx xs (j:Int)=some (strAt xs j):=by rw [qh2 h,qnR h]
def neB (xs:List ByteArray) (j i:Nat):Bool:=!decide (strAt xs i=strAt xs j)
def namesB (xs:List ByteArray):Bool:=allN (fun j=>nameB (strAt xs j)&&allN (neB xs j) j) xs.length
theorem qmT {xs:List ByteArray} (h:okL okS xs):Ev (fun n=>qfZ n xs) (namesB xs):=by
 have hl:=h.len
 have hL2:∀ j,j<xs.length→Ev (fun n=>qd1 xs (j:Int) n 0) (bif allN (neB xs j) j then .nxt (j:Int) else .ret false):=by
  intro j hj
  refine qeb ?_ (fun i hi X hX=>Ev.succ ?_)
  ·exact Ev.succ (by simp only [qd1,qk (jb _),cond_false];exact .done)
  ·simp only [qd1,qj hi,cond_true,qpW (show i<xs.length by omega),qpW hj,ja,qg5,wS i]
   unfold neB
   cases decide (strAt xs i=strAt xs j)
   ·exact hX
   ·exact .done
 have hL1:Ev (fun n=>qd5 xs n 0) (bif namesB xs then .nxt (xs.length:Int) else .ret false):=by
  refine qeb ?_ (fun j hj X hX=>Ev.succ ?_)
  ·exact Ev.succ (by simp only [qd5,qk (jb _),cond_false];exact .done)
  ·simp only [qd5,qj hj,cond_true,qpW hj,ja,wS j]
   refine Ev.bind (qlS (by rw [qnR hj];exact h.at hj)) ?_
   cases nameB (strAt xs j)
   ·exact .done
   ·refine Ev.ff rfl (Ev.bind (hL2 j hj) ?_)
    cases allN (neB xs j) j
    ·exact .done
    ·exact hX
 unfold qfZ
 refine Ev.bind hL1 ?_
 cases namesB xs<;>exact .done
theorem qs3 {xs:List ByteArray} {v:ByteArray} (hl:xs.length≤1048576):Ev (fun n=>qe3 n xs v) (ixL (fun x=>decide (v=x)) xs) :=
 qfh (fin:=(xs.length:Int)) (Lf:=qbQ xs v) (pf:=fun _ x=>some (decide (v=x))) (fun _ _=>.done)
  (fun n=>by simp only [qbQ,qk (jb _),cond_false])
  (fun n j x hx=>by
   have hj:=(List.getElem?_eq_some_iff.1 hx).1
   simp only [qbQ,qj hj,cond_true,qax hx,ja,qg5,wS j])
  (fun n=>by unfold qe3;congr 1;funext o;cases o<;>rfl)
theorem qqF {xs:List ByteArray} {v:ByteArray} (hl:xs.length≤1048576):Ev (fun n=>qdK n xs v) (xs.any fun x=>decide (v=x)):=by
 unfold qdK
 exact Ev.bind (qs3 hl) (Ev.now (by rw [qmZ]))
theorem qi9 {xs:List ByteArray} (h:okL okS xs):Ev (fun n=>qdV n xs) (namesB xs):=by
 have hl:=h.len
 have hL1:Ev (fun n=>qdW xs n 0) (bif namesB xs then .nxt (xs.length:Int) else .ret false):=by
  refine qeb ?_ (fun j hj X hX=>Ev.succ ?_)
  ·exact Ev.succ (by simp only [qdW,qk (jb _),cond_false];exact .done)
  ·have hs:subS xs 0 (j:Int)=some (xs.take j):=by
    unfold subS
    rw [if_pos ⟨by omega,by omega,by omega⟩]
    simp
   simp only [qdW,qj hj,cond_true,qpW hj,ja,hs,qoE (show okS (strAt xs j) by rw [qnR hj];exact h.at hj),wS j]
   cases nameB (strAt xs j)
   ·exact .done
   ·refine Ev.ff rfl (Ev.bind (qqF (by simp;omega)) ?_)
    have:((xs.take j).any fun x=>decide (strAt xs j=x)) = !allN (neB xs j) j:=by
     rw [qsN (d:=ByteArray.empty)]
     congr 1
     rw [jN,Nat.min_eq_left (by omega)]
     refine qhC (fun i hi=>?_)
     unfold neB strAt
     congr 1
     have:(xs.take j).getD i ByteArray.empty=xs.getD i ByteArray.empty:=by simp [jz,hi]
     rw [this]
     exact decide_eq_decide.2 eq_comm
    rw [this]
    cases allN (neB xs j) j
    ·exact .done
    ·exact hX
 unfold qdV
 refine Ev.bind hL1 ?_
 cases namesB xs<;>exact .done
end Go.Fw


namespace Go.Fw
open Go
set_option maxRecDepth 100000
theorem qqQ {n:Nat} {x lo hi:Int}:qgL n x lo hi=some (!inI x lo hi):=by simp only [qgL,qcY,ja]
theorem qdM {xs:List Int} {lo hi:Int} (hl:xs.length≤1048576):Ev (fun n=>qbH n xs lo hi) (xs.all fun x=>inI x lo hi):=by
 have h1:Ev (fun n=>qaR n xs lo hi) (ixL (fun x=>!inI x lo hi) xs) :=
  qfh (fin:=(xs.length:Int)) (Lf:=qad xs lo hi) (pf:=fun _ x=>some (!inI x lo hi)) (fun _ _=>.done)
   (fun n=>by simp only [qad,qk (jb _),cond_false])
   (fun n j x hx=>by
    have hj:=(List.getElem?_eq_some_iff.1 hx).1
    simp only [qad,qj hj,cond_true,qax hx,ja,qqQ,wS j])
   (fun n=>by unfold qaR;congr 1;funext o;cases o<;>rfl)
 unfold qbH qbr
 refine Ev.bind (Ev.bind h1 (Ev.now rfl)) (Ev.now ?_)
 rw [qmZ,qoc]
def stepB (xs:List Int) (j:Nat):Bool:=decide (j=0) || decide (at0 xs (j-1)<at0 xs j)
def incB (xs:List Int):Bool:=allN (stepB xs) xs.length
theorem qmb {xs:List Int} (hl:xs.length≤1048576):Ev (fun n=>qeR n xs) (incB xs):=by
 have hL:Ev (fun n=>qbp xs n 1) (bif incB xs then .nxt (max 1 xs.length:Int) else .ret false):=by
  by_cases h0:xs.length=0
  ·have hb:incB xs=true:=by unfold incB;rw [h0];rfl
   rw [hb]
   refine Ev.succ ?_
   have:decide ((1:Int)<(xs.length:Int))=false:=by rw [h0];decide
   simp only [qbp,this,cond_false]
   exact Ev.now (by rw [h0];rfl)
  ·have:=qun (Lf:=qbp xs) (len:=xs.length) (i0:=1) (f:=stepB xs) (bad:=false) (fin:=.nxt (max 1 xs.length:Int)) (by omega)
    (Ev.succ (by
     simp only [qbp,qk (jb _),cond_false]
     exact Ev.now (by congr 2;omega)))
    (fun j h1 hj X hX=>Ev.succ (by
     simp only [qbp,qj hj,cond_true,wS j,show (j:Int)-1=((j-1:Nat):Int) by omega,qaw (show -9223372036854775808≤((j-1:Nat):Int) by omega) (by omega),qaf (show j-1<xs.length by omega),qaf hj,ja]
     unfold stepB
     by_cases hc:at0 xs (j-1)<at0 xs j
     ·have e1:decide (at0 xs (j-1) ≥ at0 xs j)=false:=by simp;omega
      rw [e1];simp only [hc,decide_true,Bool.or_true,cond_true,cond_false];exact hX
     ·have e1:decide (at0 xs (j-1) ≥ at0 xs j)=true:=by simp;omega
      have e2:decide (j=0)=false:=by simp;omega
      rw [e1,e2];simp only [hc,decide_false,Bool.or_self,cond_true,cond_false];exact .done))
   have e:allN (fun j=>stepB xs (1+j)) (xs.length-1)=incB xs:=by
    unfold incB
    rw [jh,qah,qah]
    constructor
    ·intro h j hj
     cases j with
     | zero=>rfl
     | succ j=>have:=h j (by omega);rwa [Nat.add_comm] at this
    ·intro h j hj
     exact h (1+j) (by omega)
   rw [e] at this
   exact this
 unfold qeR
 refine Ev.bind hL ?_
 cases incB xs<;>exact .done
def lenB {α:Type} (xs:List α) (lo hi:Nat):Bool:=decide (lo≤xs.length)&&decide (xs.length≤hi)
theorem qrX {α:Type} {xs:List α} {lo hi:Nat}:inI (xs.length:Int) (lo:Int) (hi:Int)=lenB xs lo hi:=by
 unfold inI lenB;rw [jh];simp
def axisB (xs:List Int):Bool:=lenB xs 1 4&&((xs.all fun x=>inI x 0 100000)&&incB xs)
theorem qrp {xs:List Int} (hl:xs.length≤1048576):Ev (fun n=>qja n xs) (axisB xs):=by
 simp only [qja,qbl,ja,qcY,show inI (xs.length:Int) 1 4=lenB xs 1 4 from qrX (lo:=1) (hi:=4)]
 unfold axisB
 cases lenB xs 1 4
 ·exact .done
 ·refine Ev.tt rfl (Ev.bind (qdM hl) ?_)
  cases (xs.all fun x=>inI x 0 100000)
  ·exact .done
  ·exact Ev.tt rfl (Ev.bind (qmb hl) .done)
theorem qqg {xs:List Int} (hl:xs.length≤1048576):Ev (fun n=>qhN n xs) (axisB xs):=by
 have hL:Ev (fun n=>qdz xs n 0) (bif allN (fun j=>inI (at0 xs j) 0 100000&&stepB xs j) xs.length then .nxt (xs.length:Int) else .ret false):=by
  refine qeb ?_ (fun j hj X hX=>Ev.succ ?_)
  ·exact Ev.succ (by simp only [qdz,qk (jb _),cond_false];exact .done)
  ·simp only [qdz,qj hj,cond_true,qaf hj,ja,qcF,wS j]
   cases inI (at0 xs j) 0 100000
   ·exact .done
   ·simp only [jW,cond_false,jw]
    unfold stepB
    by_cases h0:j=0
    ·subst h0
     exact Ev.ff (by decide) hX
    ·simp only [show (j:Int)-1=((j-1:Nat):Int) by omega,qaw (show -9223372036854775808≤((j-1:Nat):Int) by omega) (by omega),qaf (show j-1<xs.length by omega),ja]
     have e2:decide (j=0)=false:=by simp;omega
     have e3:decide ((j:Int) > 0)=true:=by simp;omega
     rw [e2,e3]
     simp only [cond_true,Bool.false_or]
     by_cases hc:at0 xs (j-1)<at0 xs j
     ·have e1:decide (at0 xs (j-1) ≥ at0 xs j)=false:=by simp;omega
      rw [e1];simp only [hc,decide_true,cond_true,cond_false];exact hX
     ·have e1:decide (at0 xs (j-1) ≥ at0 xs j)=true:=by simp;omega
      rw [e1];simp only [hc,decide_false,cond_true,cond_false];exact .done
 have e:axisB xs=(allN (fun j=>inI (at0 xs j) 0 100000&&stepB xs j) xs.length&&lenB xs 1 4):=by
  unfold axisB incB
  rw [qls,qgs (d:=0),Bool.and_comm]
  rfl
 rw [e]
 unfold qhN
 refine Ev.bind hL ?_
 cases allN (fun j=>inI (at0 xs j) 0 100000&&stepB xs j) xs.length
 ·exact .done
 ·simp only [cond_true,qmF,qol,jw]
  exact Ev.now (by congr 1;unfold lenB;rw [jh];simp;omega)
def tableB (t:qv):Bool:=axisB t.Bm&&(axisB t.Bj&&(decide (t.Bh.length=t.Bm.length*t.Bj.length)&&(t.Bh.all fun x=>inI x (-1000000) 1000000)))
theorem qur {a b:Nat} (ha:a≤1048576) (hb:b≤1048576):W64 ((a:Int)*(b:Int))=((a*b:Nat):Int):=by
 have h:a*b≤1048576*1048576:=Nat.mul_le_mul ha hb
 have e:(a:Int)*(b:Int)=((a*b:Nat):Int):=by simp
 rw [e]
 exact qaw (by omega) (by omega)
theorem qty {t:qv} (h:qio t):Ev (fun n=>qjQ n t) (tableB t):=by
 unfold qjQ tableB
 refine Ev.bind (qrp h.Bm.len) ?_
 cases axisB t.Bm
 ·exact .done
 ·refine Ev.tt rfl (Ev.bind (qrp h.Bj.len) ?_)
  cases axisB t.Bj
  ·exact .done
  ·rw [qur h.Bm.len h.Bj.len]
   have e:(((t.Bh.length:Nat):Int)==((t.Bm.length*t.Bj.length:Nat):Int))=decide (t.Bh.length=t.Bm.length*t.Bj.length):=by rw [jh];simp;omega
   rw [e]
   cases decide (t.Bh.length=t.Bm.length*t.Bj.length)
   ·exact .done
   ·exact Ev.tt rfl (Ev.tt rfl (Ev.bind (qdM h.Bh.len) .done))
theorem qs1 {t:qv} (h:qio t):Ev (fun n=>qjD n t) (tableB t):=by
 have hl:=h.Bh.len
 have hL:Ev (fun n=>qes t n 0) (bif (t.Bh.all fun x=>inI x (-1000000) 1000000) then .nxt (t.Bh.length:Int) else .ret false) :=
  qoq (fun n=>by simp only [qes,qk (jb _),cond_false]) (fun j hj X hX=>by
   simp only [qes,qj hj,cond_true,qh2 hj,ja,qcF,wS j]
   cases inI t.Bh[j] (-1000000) 1000000
   ·exact .done
   ·exact hX)
 unfold qjD tableB
 refine Ev.bind (b:=!(axisB t.Bm&&(axisB t.Bj&&decide (t.Bh.length=t.Bm.length*t.Bj.length)))) ?_ ?_
 ·refine Ev.bind (qqg h.Bm.len) ?_
  cases axisB t.Bm
  ·exact .done
  ·refine Ev.ff rfl (Ev.bind (qqg h.Bj.len) ?_)
   cases axisB t.Bj
   ·exact .done
   ·refine Ev.ff rfl (Ev.now ?_)
    rw [qur h.Bm.len h.Bj.len]
    congr 1
    rw [jh];simp;omega
 ·cases axisB t.Bm
  ·exact .done
  ·cases axisB t.Bj
   ·exact .done
   ·cases decide (t.Bh.length=t.Bm.length*t.Bj.length)
    ·exact .done
    ·refine Ev.ff rfl (Ev.bind hL ?_)
     cases (t.Bh.all fun x=>inI x (-1000000) 1000000)<;>exact .done
end Go.Fw


namespace Go.Fw
open Go
set_option maxRecDepth 100000
instance:Inhabited qaq:=⟨⟨ByteArray.empty,0,0,false⟩⟩
instance:Inhabited qv:=⟨⟨[],[],[]⟩⟩
instance:Inhabited qP:=⟨⟨0,0,0,0,[],[]⟩⟩
instance:Inhabited qB:=⟨⟨ByteArray.empty,0,[],[],[],0,0⟩⟩
instance:Inhabited qn:=⟨⟨ByteArray.empty,0,[]⟩⟩
instance:Inhabited qam:=⟨⟨ByteArray.empty,0,0⟩⟩
instance:Inhabited qQ:=⟨⟨[],[],[],[]⟩⟩
theorem lastE {j m:Nat} (h:j<m) (hm:m≤1048576):((j:Int)==W64 ((m:Int)-1))=decide (j+1=m):=by
 rcases qw8 h with h|h
 ·exact h
 ·omega
theorem qjU {α:Type} [Inhabited α] {xs:List α} {g:α→ByteArray} {j:Nat} (h:j<xs.length):strAt (xs.map g) j=g (gt xs j):=by
 rw [qnR (by simpa using h),qeZ h];simp
theorem qnd {α:Type} {xs:List α} {g:α→ByteArray} {ok:α→Prop} (h:okL ok xs) (hg:∀ x,ok x→okS (g x)):okL okS (xs.map g) :=
 ⟨by rw [jv];exact h.1,fun y hy=>by
  obtain ⟨x,hx,rfl⟩:=List.mem_map.1 hy
  exact hg x (h.2 x hx)⟩
theorem qlr {α β:Type} {xs:List α} {g:α→β} {j:Nat} (h:j<xs.length) (hl:xs.length≤1048576) {y:β}:appS ((xs.take j).map g) [y]=some ((xs.take j).map g++[y]) :=
 qcV (by simp;omega)
def pinB (ps:List qaq) (j:Nat):Bool :=
 bif decide (j+1=ps.length) then ((gt ps j).Bv==2)&&(((gt ps j).Bt==0)&&!(gt ps j).Bq) else ((gt ps j).Bv==1)&&inI (gt ps j).Bt 0 500
def pinsB (ps:List qaq):Bool:=allN (pinB ps) ps.length&&(lenB ps 2 5&&namesB (ps.map qaq.Bb))
def clkN (ps:List qaq) (j:Nat):Nat:=cntP (fun i=>(gt ps i).Bq) j
theorem qtC {ps:List qaq} (h:okL qms ps):Ev (fun n=>qjJ n ps) (pinsB ps):=by
 have hl:=h.len
 have hL:Ev (fun n=>qcS ps n ([]:List ByteArray) 0) (bif allN (pinB ps) ps.length then .nxt (ps.map qaq.Bb,(ps.length:Int)) else .ret false):=by
  refine loopN (Lf:=qcS ps) (S:=fun j=>(ps.take j).map qaq.Bb) (pinB ps) (fun n=>?_) (fun j hj hp X hX=>?_)
  ·simp only [qcS,qk (jb _),cond_false,jB]
  ·simp only [qcS,qj hj,cond_true,qA hj,ja,qlr hj hl,qfE (g:=qaq.Bb) hj,lastE hj hl,bne,qcX,qcY,wS j]
   generalize hc:pinB ps j=c at hX ⊢
   unfold pinB at hc
   cases hd:decide (j+1=ps.length)
   ·rw [hd] at hc
    simp only [cond_false] at hc ⊢
    subst hc
    exact Ev.okP (fun h1=>Ev.okP1 (fun h2=>hX (by rw [h1,h2];rfl)))
   ·rw [hd] at hc
    simp only [cond_true] at hc ⊢
    subst hc
    refine Ev.okP (fun h1=>Ev.okP (fun h2=>Ev.chkP1 (fun h3=>hX (by rw [h1,h2,h3];rfl))))
 unfold qjJ pinsB
 refine Ev.bind hL ?_
 cases allN (pinB ps) ps.length
 ·exact .done
 ·simp only [cond_true,qck,qcY,ja,show inI (ps.length:Int) 2 5=lenB ps 2 5 from qrX (lo:=2) (hi:=5),jw]
  exact Ev.andP (fun _=>Ev.last (qi9 (qnd h (fun x hx=>hx.Bb))))
def pinS (ps:List qaq) (j:Nat):Bool:=allN (neB (ps.map qaq.Bb) j) j&&((nameB (gt ps j).Bb&&inI (gt ps j).Bt 0 500)&&(bif decide (j+1=ps.length) then ((gt ps j).Bv==2)&&(((gt ps j).Bt==0)&&!(gt ps j).Bq) else ((gt ps j).Bv==1)))
theorem qxo {ps:List qaq}:(lenB ps 2 5&&allN (pinS ps) ps.length)=pinsB ps:=by
 have e:namesB (ps.map qaq.Bb)=allN (fun j=>nameB (gt ps j).Bb&&allN (neB (ps.map qaq.Bb) j) j) ps.length:=by
  unfold namesB
  rw [jv]
  exact qhC (fun j hj=>by rw [qjU hj])
 unfold pinsB
 rw [e,←Bool.and_assoc,Bool.and_comm (allN (pinB ps) ps.length),Bool.and_assoc,←qls]
 congr 1
 refine qhC (fun j hj=>?_)
 unfold pinS pinB
 cases hd:decide (j+1=ps.length)
 ·simp only [cond_false]
  cases allN (neB (ps.map qaq.Bb) j) j<;>cases nameB (gt ps j).Bb<;>cases inI (gt ps j).Bt 0 500<;>cases ((gt ps j).Bv==1)<;>rfl
 ·simp only [cond_true]
  cases hcap:((gt ps j).Bt==0)
  ·simp
  ·have:inI (gt ps j).Bt 0 500=true:=by rw [beq_iff_eq] at hcap;rw [hcap];rfl
   rw [this]
   cases allN (neB (ps.map qaq.Bb) j) j<;>cases nameB (gt ps j).Bb<;>cases ((gt ps j).Bv==2)<;>cases (gt ps j).Bq<;>rfl
theorem qts {c:qB} (h:okL qms c.Be):Ev (fun n=>qjA n c) (bif pinsB c.Be then (((clkN c.Be c.Be.length:Nat):Int),true) else (0,false)):=by
 have hl:=h.len
 have hL2:∀ j,j<c.Be.length→Ev (fun n=>qer c (j:Int) (gt c.Be j) n 0) (bif allN (neB (c.Be.map qaq.Bb) j) j then .nxt (j:Int) else .ret (0,false)):=by
  intro j hj
  refine qeb ?_ (fun i hi X hX=>Ev.succ ?_)
  ·exact Ev.succ (by simp only [qer,qk (jb _),cond_false];exact .done)
  ·simp only [qer,qj hi,cond_true,qA (show i<c.Be.length by omega),ja,qg5,wS i]
   unfold neB
   rw [qjU (g:=qaq.Bb) (show i<c.Be.length by omega),qjU (g:=qaq.Bb) hj]
   exact Ev.chkP1 (fun _=>hX)
 have hL1:Ev (fun n=>qcR c n 0 0) (bif allN (pinS c.Be) c.Be.length then .nxt (((clkN c.Be c.Be.length:Nat):Int),(c.Be.length:Int)) else .ret (0,false)):=by
  refine loopN (Lf:=qcR c) (S:=fun j=>((clkN c.Be j:Nat):Int)) (pinS c.Be) (fun n=>?_) (fun j hj hp X hX=>?_)
  ·simp only [qcR,qk (jb _),cond_false]
  ·have hn:clkN c.Be j≤j:=qfA
   have ejl:((j:Int)==W64 ((c.Be.length:Int)-1))=decide (j+1=c.Be.length):=lastE hj hl
   have elt:decide ((j:Int)<W64 ((c.Be.length:Int)-1)) = !decide (j+1=c.Be.length):=by
    rw [qaw (by omega) (by omega),jh];simp;omega
   simp only [qcR,qj hj,cond_true,qA hj,ja,wS j,qh5 (show clkN c.Be j<9223372036854775807 by omega),ejl,elt,qcF]
   unfold pinS
   refine Ev.bind (hL2 j hj) ?_
   cases ha:allN (neB (c.Be.map qaq.Bb) j) j
   ·exact .done
   ·simp only [cond_true,jw]
    refine Ev.chkT ?_ (fun h1=>?_)
    ·exact Ev.or (qlS (qmt h hj).Bb) (fun _=>.done)
    ·refine Ev.chkT1 ?_ (fun h2=>?_)
     ·cases decide (j+1=c.Be.length)
      ·exact .done
      ·simp only [cond_true,jW,cond_false,bne,qcX]
       cases ((gt c.Be j).Bv==2)<;>cases ((gt c.Be j).Bt==0)<;>cases (gt c.Be j).Bq<;>exact .done
     ·have hX:=hX (by unfold pinS;rw [ha,h1,h2];rfl)
      have hck:clkN c.Be (j+1)=clkN c.Be j+(bif (gt c.Be j).Bq then 1 else 0):=rfl
      rw [hck] at hX
      cases hc:(gt c.Be j).Bq
      ·rw [hc] at hX;exact Ev.ff rfl hX
      ·rw [hc] at hX;exact Ev.tt rfl hX
 rw [←qxo]
 unfold qjA
 refine Ev.guard ?_ (fun h1=>?_)
 ·unfold lenB
  have e1:decide ((c.Be.length:Int)<2) = !decide (2≤c.Be.length):=by rw [jh];simp;omega
  have e2:decide ((c.Be.length:Int) > 5) = !decide (c.Be.length≤5):=by rw [jh];simp;omega
  rw [e1,e2]
  cases decide (2≤c.Be.length)<;>cases decide (c.Be.length≤5)<;>exact .done
 ·refine Ev.bind hL1 ?_
  cases allN (pinS c.Be) c.Be.length<;>exact .done
def mnL (xs:List Int):Int:=(xs.drop 1).foldl (fun m y=>if y<m then y else m) (at0 xs 0)
def mxL (xs:List Int):Int:=(xs.drop 1).foldl (fun m y=>if y > m then y else m) (at0 xs 0)
theorem qqk {t:qv} (h:tableB t=true):1≤t.Bh.length:=by
 unfold tableB axisB lenB at h
 simp only [jc,decide_eq_true_eq] at h
 obtain ⟨⟨⟨h1,_⟩,_⟩,⟨⟨h2,_⟩,_⟩,h3,_⟩:=h
 rw [h3]
 exact Nat.mul_pos h1 h2
theorem qxE {xs:List Int} (h1:1≤xs.length) (hl:xs.length≤1048576):Ev (fun n=>qgB n xs) (mnL xs):=by
 have hL:=(qoT (Lf:=fun n t j=>qcK xs n t j) (xs:=xs) (step:=fun (m y:Int)=>if y<m then y else m) (fin:=fun t=>(t,(xs.length:Int))) 1 (at0 xs 0) (fun _ _=>True) h1 trivial (fun _ _ _ _=>trivial)
  (fun n t=>by simp only [qcK,qk (jb _),cond_false])
  (fun j t hj _ X hX=>by simpa only [qcK,qj hj,cond_true,qh2 hj,ja,wS j] using hX)).1
 unfold qgB
 rw [show decide ((xs.length:Int)<1)=false by simp;omega,show idx xs (0:Int)=some (at0 xs 0) from qaf (j:=0) (by omega)]
 simp only [cond_false,ja]
 exact Ev.bind hL .done
theorem qtH {t:qv} (h:qio t):Ev (fun n=>qgO n t) (bif tableB t then (⟨mnL t.Bh,mxL t.Bh⟩,0) else (⟨0,0⟩,1)):=by
 unfold qgO
 refine Ev.chk1 (qs1 h) (fun hb=>?_)
 have h1:=qqk hb
 have hl:=h.Bh.len
 have hL:=(qoT (Lf:=fun n (t':Int × Int) j=>qcI t n t'.1 t'.2 j) (xs:=t.Bh) (step:=fun (m:Int × Int) y=>(if y<m.1 then y else m.1,if y > m.2 then y else m.2)) (fin:=fun t'=>(t'.1,t'.2,(t.Bh.length:Int))) 1 (at0 t.Bh 0,at0 t.Bh 0) (fun _ _=>True) h1 trivial (fun _ _ _ _=>trivial)
  (fun n t=>by simp only [qcI,qk (jb _),cond_false])
  (fun j t hj _ X hX=>by simpa only [qcI,qj hj,cond_true,qh2 hj,ja,wS j] using hX)).1
 have hf:∀ (ys:List Int) (a b:Int),ys.foldl (fun (m:Int × Int) y=>(if y<m.1 then y else m.1,if y > m.2 then y else m.2)) (a,b)=(ys.foldl (fun m y=>if y<m then y else m) a,ys.foldl (fun m y=>if y > m then y else m) b):=by
  intro ys
  induction ys with
  | nil=>intro a b;rfl
  | cons y ys ih=>intro a b;simp only [List.foldl_cons,ih]
 rw [hf] at hL
 rw [show idx t.Bh (0:Int)=some (at0 t.Bh 0) from qaf (j:=0) (by omega)]
 simp only [ja]
 exact Ev.bind hL .done
def tabB (pos:Bool) (t:qv):Bool:=tableB t&&(!pos || decide (0≤mnL t.Bh))
def tablesB (ts:List qv) (pos:Bool):Bool:=decide (ts.length=2)&&ts.all (tabB pos)
theorem qlE {ts:List qv} {pos:Bool} (h:okL qio ts):Ev (fun n=>qe5 n ts pos) (tablesB ts pos):=by
 have hl:=h.len
 have h1:Ev (fun n=>qaC n ts pos) (ixL (fun x=>!tabB pos x) ts) :=
  qfh (fin:=(ts.length:Int)) (Lf:=qM ts pos) (pf:=fun n x=>qgS n x pos) (fun x hx=>by
    unfold qgS tabB
    refine Ev.or (qty (h.2 x hx)) (fun hb=>?_)
    cases pos
    ·exact .done
    ·refine Ev.tt rfl (Ev.bind (qxE (qqk hb) (h.2 x hx).Bh.len) (Ev.now ?_))
     congr 1
     rw [jh];simp)
   (fun n=>by simp only [qM,qk (jb _),cond_false])
   (fun n j x hx=>by
    have hj:=(List.getElem?_eq_some_iff.1 hx).1
    simp only [qM,qj hj,cond_true,qax hx,ja,wS j])
   (fun n=>by unfold qaC;congr 1;funext o;cases o<;>rfl)
 unfold qe5 qaT tablesB
 rw [show ((ts.length:Int)==2)=decide (ts.length=2) by rw [jh];simp;omega]
 refine Ev.andP (fun _=>Ev.bind (Ev.bind h1 (Ev.now rfl)) (Ev.now ?_))
 rw [qmZ,qoc]
theorem qhZ {ts:List qv} {pos:Bool} (h:okL qio ts):Ev (fun n=>qdm n ts pos) (tablesB ts pos):=by
 unfold qdm tablesB
 rw [show ((ts.length:Int) != 2) = !decide (ts.length=2) by rw [jh];simp;omega]
 simp only [qcX]
 refine Ev.andP (fun h2=>?_)
 have h2:ts.length=2:=by simpa using h2
 have hL:Ev (fun n=>qcH ts pos n 0) (bif allN (fun j=>tabB pos (gt ts j)) ts.length then .nxt (2:Int) else .ret false):=by
  refine qeb (len:=ts.length) ?_ (fun j hj X hX=>Ev.succ ?_)
  ·rw [h2];exact Ev.succ (by simp only [qcH];exact .done)
  ·simp only [qcH,show decide ((j:Int)<2)=true by simp;omega,cond_true,qA hj,ja,wS j]
   refine Ev.bind (qtH (qmt h hj)) ?_
   unfold tabB
   cases tableB (gt ts j)
   ·exact .done
   ·simp only [cond_true,jw]
    refine Ev.ff rfl ?_
    cases pos
    ·exact hX
    ·refine Ev.tt rfl ?_
     rw [show decide (mnL (gt ts j).Bh<0) = !decide (0≤mnL (gt ts j).Bh) by rw [jh];simp]
     simp only [qcX]
     exact Ev.okP1 (fun _=>hX)
 rw [qhS]
 refine Ev.bind hL ?_
 cases allN (fun j=>tabB pos (gt ts j)) ts.length<;>exact .done
end Go.Fw


namespace Go.Fw
open Go
set_option maxRecDepth 100000
theorem qdy {α:Type} [Inhabited α] {xs:List α} {x:Int} (h0:0≤x) (h1:x<xs.length):idx xs x=some (gt xs x.toNat):=by
  have:=qA (xs:=xs) (j:=x.toNat) (by omega)
  rwa [←qea h0] at this
theorem qrc {q:Nat→Bool} {m n:Nat} (h:m≤n):cntP q m≤cntP q n:=by
  induction n with
  | zero =>
    obtain rfl:m=0:=by omega
    exact jb _
  | succ n ih =>
    rcases Nat.lt_or_eq_of_le h with h|rfl
    · exact Nat.le_trans (ih (by omega)) (Nat.le_add_right _ _)
    · exact jb _
theorem qm7 {m k:Nat}:decide ((m:Int)≤(k:Int))=decide (m≤k):=by rw [jh];simp
theorem qtl {q:Nat→Bool} {n i j:Nat} (hi:i<j) (hj:j<n) (h1:q i=true) (h2:q j=true):2≤cntP q n:=by
  have e1:cntP q (i+1)=cntP q i+1:=by rw [cntP,h1];rfl
  have e2:cntP q (j+1)=cntP q j+1:=by rw [cntP,h2];rfl
  have m1:=qrc (q:=q) (show i+1≤j by omega)
  have m2:=qrc (q:=q) (show j+1≤n by omega)
  omega
theorem qsy {q:Nat→Bool} {n i j:Nat} (hn:cntP q n≤1) (hi:i<n) (hj:j<n) (h1:q i=true) (h2:q j=true):i=j:=by
  rcases Nat.lt_trichotomy i j with h|h|h
  · have:=qtl h hj h1 h2;omega
  · exact h
  · have:=qtl h hi h2 h1;omega
def clkIx (ps:List qaq):Int:=ixL (fun p=>p.Bq) ps
def clkAt (ps:List qaq) (x:Int):Bool:=(gt ps x.toNat).Bq
theorem qv2 {c:qB} (hl:c.Be.length≤1048576):Ev (fun n=>qhl n c) (clkIx c.Be):=by
  unfold qhl
  refine Ev.bind (b:=clkIx c.Be) ?_ .done
  exact qfh (fin:=(c.Be.length:Int)) (Lf:=qR c.Be) (pf:=fun n x=>qin n x) (fun _ _=>.done)
    (fun n=>by simp only [qR,qk (jb _),cond_false])
    (fun n j x hx=>by
      have hj:=(List.getElem?_eq_some_iff.1 hx).1
      simp only [qR,qj hj,cond_true,qax hx,ja,wS j])
    (fun n=>by unfold qbn;congr 1;funext o;cases o<;>rfl)
def arcI (ps:List qaq) (a:qP):Bool :=
  bif (a.Bf==4) || (a.Bf==5) then
    (a.Bn==0)&&(((a.Bc.length:Int)==0)&&(tablesB a.Bp false&&((a.Bk==clkIx ps)&&(decide (a.Bk ≥ 0)&&(inI a.To 0 (ps.length-2)&&!(a.To==a.Bk))))))
  else
    (tablesB a.Bp true&&(tablesB a.Bc true&&((a.To==(ps.length:Int)-1)&&inI a.Bk 0 (ps.length-2)))) &&
      (bif a.Bf==1 then !clkAt ps a.Bk&&inI a.Bn 1 3 else (bif (a.Bf==2) || (a.Bf==3) then clkAt ps a.Bk&&(a.Bn==0) else false))
def arcS (ps:List qaq) (a:qP):Bool :=
  (inI a.Bk 0 (ps.length-2)&&inI a.To 0 (ps.length-1)) &&
    (bif a.Bf==1 then !clkAt ps a.Bk&&((a.To==(ps.length:Int)-1)&&(inI a.Bn 1 3&&(tablesB a.Bp true&&tablesB a.Bc true)))
     else (bif (a.Bf==2) || (a.Bf==3) then clkAt ps a.Bk&&((a.To==(ps.length:Int)-1)&&((a.Bn==0)&&(tablesB a.Bp true&&tablesB a.Bc true)))
     else (bif (a.Bf==4) || (a.Bf==5) then clkAt ps a.Bk&&(decide (a.To<(ps.length:Int)-1)&&(!clkAt ps a.To&&((a.Bn==0)&&(tablesB a.Bp false&&((a.Bc.length:Int)==0))))) else false)))
theorem qpa {c d:Bool}:(bif c then some c else some d)=some (c || d):=by cases c<;>rfl
theorem qsH {c d:Bool}:(bif c then some true else some d)=some (c || d):=by cases c<;>rfl
theorem qtz {n:Nat} {k:Int}:qjx n k=some ((k==4) || (k==5)):=by simp only [qjx,qsH]
theorem qvG {c:qB} {a:qP} (h:okL qms c.Be) (ha:qnF a) (hm:2≤c.Be.length):Ev (fun n=>qhs n c a) (arcI c.Be a):=by
  have hl:=h.len
  have e1:W64 ((c.Be.length:Int)-1)=(c.Be.length:Int)-1:=qeQ (by omega)
  have e2:W64 ((c.Be.length:Int)-1-1)=(c.Be.length:Int)-2:=by rw [qaw (by omega) (by omega)];omega
  simp only [qhs,qtz,ja,qf9,qdX,qck,e1,e2,qcY,qpa,bne]
  unfold arcI
  refine Ev.iff (fun _=>Ev.last ?_) (fun _=>Ev.guardB ?_ (fun hb=>?_))
  · exact Ev.andP fun _=>Ev.andP fun _=>Ev.and (qlE ha.Bp) fun _=>Ev.bind (qv2 hl) (Ev.andP fun _=>Ev.andP fun _=>Ev.andP fun _=>.done)
  · refine Ev.or (qlE ha.Bp) fun _=>Ev.or (qlE ha.Bc) fun _=>?_
    simp only [qcX]
    exact Ev.orBP fun _=>.done
  · have hf:0≤a.Bk∧a.Bk≤(c.Be.length:Int)-2:=by
      simp only [jc,qa7] at hb
      exact hb.2.2.2
    simp only [qdy hf.1 (show a.Bk<(c.Be.length:Int) by omega),ja]
    exact Ev.iff (fun _=>Ev.andP fun _=>.done) (fun _=>Ev.iff (fun _=>Ev.andP fun _=>.done) (fun _=>.done))
theorem qvq {c:qB} {a:qP} (h:okL qms c.Be) (ha:qnF a) (hm:2≤c.Be.length):Ev (fun n=>qkD n c a) (arcS c.Be a):=by
  have hl:=h.len
  have e1:W64 ((c.Be.length:Int)-1)=(c.Be.length:Int)-1:=qeQ (by omega)
  have e2:W64 ((c.Be.length:Int)-1-1)=(c.Be.length:Int)-2:=by rw [qaw (by omega) (by omega)];omega
  simp only [qkD,ja,e1,e2,qcF,qpa]
  unfold arcS
  refine Ev.guardB ?_ (fun hb=>?_)
  · simp only [qcX]
    exact Ev.orBP fun _=>.done
  · have hf:(0≤a.Bk∧a.Bk≤(c.Be.length:Int)-2)∧(0≤a.To∧a.To≤(c.Be.length:Int)-1):=by
      simp only [jc,qa7] at hb
      exact hb
    simp only [qdy hf.1.1 (show a.Bk<(c.Be.length:Int) by omega),qdy hf.2.1 (show a.To<(c.Be.length:Int) by omega),ja]
    refine Ev.iff (fun _=>?_) (fun _=>Ev.iff (fun _=>?_) (fun _=>Ev.iff (fun _=>?_) (fun _=>.done)))
    · exact Ev.andP fun _=>Ev.andP fun _=>Ev.andP fun _=>Ev.and (qhZ ha.Bp) fun _=>Ev.last (qhZ ha.Bc)
    · exact Ev.andP fun _=>Ev.andP fun _=>Ev.andP fun _=>Ev.and (qhZ ha.Bp) fun _=>Ev.last (qhZ ha.Bc)
    · exact Ev.andP fun _=>Ev.andP fun _=>Ev.andP fun _=>Ev.andP fun _=>Ev.and (qhZ ha.Bp) fun _=>.done
theorem qo5 {ps:List qaq} (h1:clkN ps ps.length≤1) {x:Int} (hx:0≤x):clkIx ps=x↔x<ps.length∧clkAt ps x=true:=by
  unfold clkIx ixL
  cases hf:ps.findIdx? (fun p=>p.Bq) with
  | some j =>
    obtain ⟨hj,hp,_⟩:=List.findIdx?_eq_some_iff_getElem.1 hf
    have hpj:(gt ps j).Bq=true:=by rw [qeZ hj];exact hp
    constructor
    · intro e
      have e:(j:Int)=x:=e
      subst e
      exact ⟨by omega,by unfold clkAt;rw [jj];exact hpj⟩
    · rintro ⟨hl,hc⟩
      have:=qsy h1 hj (show x.toNat<ps.length by omega) hpj hc
      show (j:Int)=x
      omega
  | none =>
    have hn:=List.findIdx?_eq_none_iff.1 hf
    constructor
    · intro e
      have e:(-1:Int)=x:=e
      omega
    · rintro ⟨hl,hc⟩
      have hxl:x.toNat<ps.length:=by omega
      unfold clkAt at hc
      rw [qeZ hxl] at hc
      have:=hn _ (jo hxl)
      rw [hc] at this
      exact absurd this (by decide)
theorem qgi {ps:List qaq} (h:pinsB ps=true):(2≤ps.length∧ps.length≤5)∧clkAt ps ((ps.length:Int)-1)=false:=by
  unfold pinsB lenB at h
  simp only [jc,decide_eq_true_eq] at h
  refine ⟨h.2.1,?_⟩
  have h1:=qah.1 h.1 (ps.length-1) (by omega)
  unfold pinB at h1
  rw [show decide (ps.length-1+1=ps.length)=true by simp;omega] at h1
  simp only [cond_true,jc,jE] at h1
  unfold clkAt
  rw [show ((ps.length:Int)-1).toNat=ps.length-1 by omega]
  exact h1.2.2
theorem qv5 {ps:List qaq} {a:qP} (h:pinsB ps=true) (h1:clkN ps ps.length≤1):arcI ps a=arcS ps a:=by
  obtain ⟨⟨hm,hm5⟩,hlast⟩:=qgi h
  rw [jh]
  unfold arcI arcS
  cases h45:((a.Bf==4) || (a.Bf==5)) with
  | true =>
    have k1:(a.Bf==1)=false:=by simp at h45 ⊢;omega
    have k23:((a.Bf==2) || (a.Bf==3))=false:=by simp at h45 ⊢;omega
    rw [k1,k23]
    simp only [cond_true,cond_false,jc,qa7,decide_eq_true_eq,beq_iff_eq,jE,beq_eq_false_iff_ne,ne_eq]
    constructor
    · rintro ⟨hs,hsl,hd,hf,hf0,ht,hne⟩
      obtain ⟨hl,hc⟩:=(qo5 h1 hf0).1 hf.symm
      have hfl:a.Bk ≠ (ps.length:Int)-1:=by intro e;rw [e,hlast] at hc;cases hc
      refine ⟨⟨⟨hf0,by omega⟩,⟨ht.1,by omega⟩⟩,hc,by omega,?_,hs,hd,hsl⟩
      cases hct:clkAt ps a.To with
      | false=>rfl
      | true =>
        have:=(qo5 h1 ht.1).2 ⟨by omega,hct⟩
        omega
    · rintro ⟨⟨hf,ht⟩,hc,hlt,hct,hs,hd,hsl⟩
      have:=(qo5 h1 hf.1).2 ⟨by omega,hc⟩
      refine ⟨hs,hsl,hd,this.symm,hf.1,⟨ht.1,by omega⟩,?_⟩
      intro e
      rw [e,hc] at hct
      cases hct
  | false =>
    simp only [cond_false,jc,qa7,beq_iff_eq]
    cases (a.Bf==1)
    · cases ((a.Bf==2) || (a.Bf==3))
      · simp
      · simp only [cond_true,cond_false,jc,beq_iff_eq]
        constructor
        · rintro ⟨⟨h1,h2,h3,h4⟩,h5,h6⟩
          exact ⟨⟨h4,by omega⟩,h5,h3,h6,h1,h2⟩
        · rintro ⟨⟨h4,h7⟩,h5,h3,h6,h1,h2⟩
          exact ⟨⟨h1,h2,h3,h4⟩,h5,h6⟩
    · simp only [cond_true,jc,qa7,jE,beq_iff_eq]
      constructor
      · rintro ⟨⟨h1,h2,h3,h4⟩,h5,h6⟩
        exact ⟨⟨h4,by omega⟩,h5,h3,h6,h1,h2⟩
      · rintro ⟨⟨h4,h7⟩,h5,h3,h6,h1,h2⟩
        exact ⟨⟨h1,h2,h3,h4⟩,h5,h6⟩
theorem qrx {ps:List qaq} {a:qP} (h:arcS ps a=true):1≤a.Bf∧a.Bf≤5:=by
  unfold arcS at h
  rw [jc] at h
  have h:=h.2
  cases h1:(a.Bf==1)
  · cases h2:((a.Bf==2) || (a.Bf==3))
    · cases h4:((a.Bf==4) || (a.Bf==5))
      · rw [h1,h2,h4] at h;cases h
      · simp at h4;omega
    · simp at h2;omega
  · simp at h1;omega
def sameArc (x y:qP):Bool:=(x.Bf==y.Bf)&&((x.Bk==y.Bk)&&(x.To==y.To))
def newArc (ar:List qP) (j:Nat):Bool:=allN (fun i=>!sameArc (gt ar i) (gt ar j)) j
theorem qtM {c:qB} (h:okL qms c.Be) (ha:okL qnF c.Au) (hm:2≤c.Be.length):Ev (fun n=>qf7 n c) (allN (fun j=>arcI c.Be (gt c.Au j)&&newArc c.Au j) c.Au.length&&decide (c.Au.length≤8)):=by
  have hl:=ha.len
  have h1:∀ (ar:List qP) (y:qP),ar.length≤1048576→Ev (fun n=>qau n ar y) (ar.any fun x=>sameArc x y):=by
    intro ar y hl
    unfold qau
    refine Ev.bind (b:=ixL (fun x=>sameArc x y) ar) (qfh (fin:=(ar.length:Int)) (Lf:=qI ar y) (pf:=fun n x=>qe2 n x y) (fun x _=>?_)
      (fun n=>by simp only [qI,qk (jb _),cond_false])
      (fun n j x hx=>by
        have hj:=(List.getElem?_eq_some_iff.1 hx).1
        simp only [qI,qj hj,cond_true,qax hx,ja,wS j])
      (fun n=>by unfold qa3;congr 1;funext o;cases o<;>rfl)) (Ev.now (by rw [qmZ]))
    unfold qe2 sameArc
    exact Ev.andP fun _=>Ev.andP fun _=>.done
  have hL:Ev (fun n=>qcl c n 0) (bif allN (fun j=>arcI c.Be (gt c.Au j)&&newArc c.Au j) c.Au.length then .nxt (c.Au.length:Int) else .ret false):=by
    refine qeb ?_ (fun j hj X hX=>Ev.succ ?_)
    · exact Ev.succ (by simp only [qcl,qk (jb _),cond_false];exact .done)
    · simp only [qcl,qj hj,cond_true,qA hj,ja,qvo (Nat.le_of_lt hj),wS j]
      refine Ev.chk (qvG h (qmt ha hj) hm) fun _=>Ev.chkT1 ?_ (fun _=>hX)
      refine (h1 _ _ (by simp;omega)).cast ?_
      rw [qww (Nat.le_of_lt hj)];rfl
  unfold qf7
  refine Ev.bind hL ?_
  cases allN (fun j=>arcI c.Be (gt c.Au j)&&newArc c.Au j) c.Au.length
  · exact .done
  · refine Ev.now ?_
    show some (decide ((c.Au.length:Int)≤((8:Nat):Int)))=some (true&&decide (c.Au.length≤8))
    rw [qm7,jw]
def hasB (ar:List qP) (k:Int):Bool:=ar.any fun a=>a.Bf==k
theorem qow {c:qB} {k:Int} (hl:c.Au.length≤1048576):Ev (fun n=>qdb n c k) (hasB c.Au k):=by
  unfold qdb qa9
  exact Ev.last (Ev.bind (b:=ixL (fun x=>x.Bf==k) c.Au) (qfh (fin:=(c.Au.length:Int)) (Lf:=qZ c.Au k) (pf:=fun n x=>qjr n x k) (fun x _=>.done)
      (fun n=>by simp only [qZ,qk (jb _),cond_false])
      (fun n j x hx=>by
        have hj:=(List.getElem?_eq_some_iff.1 hx).1
        simp only [qZ,qj hj,cond_true,qax hx,ja,wS j])
      (fun n=>by unfold qbt;congr 1;funext o;cases o<;>rfl)) (Ev.now (by rw [qmZ];rfl)))
def kindN (ar:List qP) (k:Nat) (j:Nat):Nat:=cntP (fun i=>(gt ar i).Bf==(k:Int)) j
theorem qrw {ar:List qP} {k:Nat}:decide (((kindN ar k ar.length:Nat):Int) > 0)=hasB ar k:=by
  rw [show decide (((kindN ar k ar.length:Nat):Int) > 0)=decide (0<kindN ar k ar.length) by simp]
  unfold kindN hasB
  rw [qsW,qud]
theorem qt1 {ar:List qP} {k:Nat}:(((kindN ar k ar.length:Nat):Int)==0) = !hasB ar k:=by
  rw [←qrw,jh];simp
theorem qsK {c:qB} (ha:okL qnF c.Au) (hk:∀ j,j<c.Au.length→1≤(gt c.Au j).Bf∧(gt c.Au j).Bf≤5):Ev (fun n=>qiP n c) (vecC (fun k=>kindN c.Au k c.Au.length) 6):=by
  have hl:=ha.len
  have hL:Ev (fun n=>qc9 c n (vecC (fun _=>0) 6) 0) (vecC (fun k=>kindN c.Au k c.Au.length) 6,(c.Au.length:Int)):=by
    refine loopF (Lf:=qc9 c) (S:=fun j=>vecC (fun k=>kindN c.Au k j) 6) (len:=c.Au.length) (fun n=>?_) (fun j hj X hX=>?_)
    · simp only [qc9,qk (jb _),cond_false]
    · obtain ⟨k1,k5⟩:=hk j hj
      have ek:(gt c.Au j).Bf=(((gt c.Au j).Bf.toNat:Nat):Int):=qea (by omega)
      have hc:kindN c.Au (gt c.Au j).Bf.toNat j≤j:=qfA
      simp only [qc9,qj hj,cond_true,qA hj,ja,wS j]
      rw [ek,qj1 (show (gt c.Au j).Bf.toNat<6 by omega)]
      simp only [ja]
      rw [qrq (c:=fun k=>kindN c.Au k j) (by show kindN c.Au _ j<_;omega)]
      have:vecC (fun i=>kindN c.Au i j+(bif decide ((gt c.Au j).Bf.toNat=i) then 1 else 0)) 6=vecC (fun k=>kindN c.Au k (j+1)) 6:=by
        refine qj2 (fun k _=>?_)
        show _=kindN c.Au k j+(bif (gt c.Au j).Bf==(k:Int) then 1 else 0)
        congr 2
        rw [jh];simp;omega
      rw [this]
      exact hX
  unfold qiP
  rw [show mkS 6 (0:Int)=some (vecC (fun _=>0) 6) from qm4 (m:=6) (by omega)]
  simp only [ja]
  exact Ev.bind hL .done
def kindB (c:qB):Bool :=
  bif c.Bf==1 then (((clkN c.Be c.Be.length:Nat):Int)==0)&&(((c.Br.length:Int)==((2 ^ (c.Be.length-1):Nat):Int))&&(c.Br.all fun x=>inI x 0 1))
  else bif c.Bf==2 then (((clkN c.Be c.Be.length:Nat):Int)==1)&&(((c.Br.length:Int)==0)&&(!hasB c.Au 1&&!(hasB c.Au 2==hasB c.Au 3)))
  else bif c.Bf==3 then (((clkN c.Be c.Be.length:Nat):Int)==1)&&(((c.Br.length:Int)==0)&&(hasB c.Au 1&&(hasB c.Au 2&&!hasB c.Au 3)))
  else false
theorem qru {c:qB} (h:kindB c=true):clkN c.Be c.Be.length≤1:=by
  unfold kindB at h
  cases h1:(c.Bf==1)
  · cases h2:(c.Bf==2)
    · cases h3:(c.Bf==3)
      · rw [h1,h2,h3] at h;cases h
      · rw [h1,h2,h3] at h
        simp only [cond_true,cond_false,jc,beq_iff_eq] at h
        omega
    · rw [h1,h2] at h
      simp only [cond_true,cond_false,jc,beq_iff_eq] at h
      omega
  · rw [h1] at h
    simp only [cond_true,jc,beq_iff_eq] at h
    omega
theorem qsY {m:Nat} (h1:2≤m) (h2:m≤5):shlS 1 (W64 ((m:Int)-1))=some ((2 ^ (m-1):Nat):Int)∧shlS 1 (IntKind.wrap .u64 (W64 ((m:Int)-1)))=some ((2 ^ (m-1):Nat):Int):=by
  have:m=2∨m=3∨m=4∨m=5:=by omega
  rcases this with rfl|rfl|rfl|rfl<;>exact ⟨by decide,by decide⟩
theorem qsS {c:qB} (hc:qm6 c) (hm:2≤c.Be.length) (hm5:c.Be.length≤5):Ev (fun n=>qfG n c) (kindB c):=by
  have hl:=hc.Be.len
  have hL:Ev (fun n=>qa4 c n 0 0) (((clkN c.Be c.Be.length:Nat):Int),(c.Be.length:Int)):=by
    refine loopF (Lf:=qa4 c) (S:=fun j=>((clkN c.Be j:Nat):Int)) (len:=c.Be.length) (fun n=>?_) (fun j hj X hX=>?_)
    · simp only [qa4,qk (jb _),cond_false]
    · have hn:clkN c.Be j≤j:=qfA
      simp only [qa4,qj hj,cond_true,qA hj,ja,wS j,qh5 (show clkN c.Be j<9223372036854775807 by omega)]
      have hck:clkN c.Be (j+1)=clkN c.Be j+(bif (gt c.Be j).Bq then 1 else 0):=rfl
      rw [hck] at hX
      cases hc:(gt c.Be j).Bq
      · rw [hc] at hX;exact Ev.ff rfl hX
      · rw [hc] at hX;exact Ev.tt rfl hX
  unfold qfG kindB
  refine Ev.bind hL ?_
  simp only [qdX,qck,ja,(qsY hm hm5).1]
  have hal:=hc.Au.len
  refine Ev.iff (fun _=>?_) (fun _=>Ev.iff (fun _=>?_) (fun _=>Ev.iff (fun _=>?_) (fun _=>.done)))
  · exact Ev.andP fun _=>Ev.andP fun _=>Ev.last (qdM hc.Br.len)
  · exact Ev.andP fun _=>Ev.andP fun _=>Ev.bind (qow hal) (Ev.andP fun _=>Ev.bind (qow hal) (Ev.bind (qow hal) .done))
  · exact Ev.andP fun _=>Ev.andP fun _=>Ev.and (qow hal) fun _=>Ev.and (qow hal) fun _=>Ev.bind (qow hal) .done
def cellB (c:qB):Bool :=
  nameB c.Bb&&(pinsB c.Be&&((allN (fun j=>arcI c.Be (gt c.Au j)&&newArc c.Au j) c.Au.length&&decide (c.Au.length≤8))&&(inI c.Ca 0 100000&&(inI c.Bu 0 100000&&kindB c))))
theorem qvg {c:qB} (hc:qm6 c):Ev (fun n=>qkH n c) (cellB c):=by
  simp only [qkH,qoE hc.Bb,qcY,ja]
  unfold cellB
  refine Ev.andP fun _=>Ev.and (qtC hc.Be) fun hp=>?_
  obtain ⟨⟨hm,hm5⟩,_⟩:=qgi hp
  exact Ev.and (qtM hc.Be hc.Au hm) fun _=>Ev.andP fun _=>Ev.andP fun _=>Ev.last (qsS hc hm hm5)
theorem quc {c:qB} (hc:qm6 c):Ev (fun n=>qkJ n c) (cellB c):=by
  have hal:=hc.Au.len
  have htl:=hc.Br.len
  have e:cellB c=((pinsB c.Be&&(nameB c.Bb&&(decide (c.Au.length≤8)&&(inI c.Ca 0 100000&&inI c.Bu 0 100000))))&&(allN (fun j=>arcS c.Be (gt c.Au j)&&newArc c.Au j) c.Au.length&&kindB c)):=by
    unfold cellB
    cases hk:kindB c
    · simp
    · cases hp:pinsB c.Be
      · simp
      · rw [qhC (fun j _=>by rw [qv5 hp (qru hk)])]
        cases nameB c.Bb<;>cases allN (fun j=>arcS c.Be (gt c.Au j)&&newArc c.Au j) c.Au.length<;>cases decide (c.Au.length≤8)<;>cases inI c.Ca 0 100000<;>cases inI c.Bu 0 100000<;>rfl
  rw [e]
  unfold qkJ
  refine Ev.bind (qts hc.Be) ?_
  cases hp:pinsB c.Be
  · exact .done
  · obtain ⟨⟨hm,hm5⟩,_⟩:=qgi hp
    simp only [cond_true,jw,jW,cond_false]
    refine Ev.guardB ?_ (fun _=>?_)
    · simp only [qcF,ja,qcX]
      refine Ev.orB (qlS hc.Bb) fun _=>?_
      rw [show decide ((c.Au.length:Int) > 8) = !decide (c.Au.length≤8) by rw [jh];simp;omega,qcX]
      exact Ev.orBP fun _=>Ev.orBP fun _=>.done
    · have hL2:∀ j,j<c.Au.length→Ev (fun n=>qdi c (j:Int) (gt c.Au j) n 0) (bif newArc c.Au j then .nxt (j:Int) else .ret false):=by
        intro j hj
        refine qeb ?_ (fun i hi X hX=>Ev.succ ?_)
        · exact Ev.succ (by simp only [qdi,qk (jb _),cond_false];exact .done)
        · simp only [qdi,qj hi,cond_true,qA (show i<c.Au.length by omega),ja,wS i]
          unfold sameArc
          cases ((gt c.Au i).Bf==(gt c.Au j).Bf)
          · exact hX
          · cases ((gt c.Au i).Bk==(gt c.Au j).Bk)
            · exact hX
            · cases ((gt c.Au i).To==(gt c.Au j).To)
              · exact hX
              · exact .done
      have hL1:Ev (fun n=>qfl c n 0) (bif allN (fun j=>arcS c.Be (gt c.Au j)&&newArc c.Au j) c.Au.length then .nxt (c.Au.length:Int) else .ret false):=by
        refine qeb ?_ (fun j hj X hX=>Ev.succ ?_)
        · exact Ev.succ (by simp only [qfl,qk (jb _),cond_false];exact .done)
        · simp only [qfl,qj hj,cond_true,qA hj,ja,wS j]
          refine Ev.chk (qvq hc.Be (qmt hc.Au hj) hm) fun _=>Ev.bind (hL2 j hj) ?_
          cases newArc c.Au j
          · exact .done
          · exact hX
      have hL3:Ev (fun n=>qfp c n 0) (bif (c.Br.all fun x=>inI x 0 1) then .nxt (c.Br.length:Int) else .ret false) :=
        qoq (fun n=>by simp only [qfp,qk (jb _),cond_false]) (fun j hj X hX=>by
          simp only [qfp,qj hj,cond_true,qh2 hj,ja,qcF,wS j,qcX]
          exact Ev.okP1 fun _=>hX)
      refine Ev.bind hL1 ?_
      cases hA:allN (fun j=>arcS c.Be (gt c.Au j)&&newArc c.Au j) c.Au.length
      · exact .done
      · have hk:∀ j,j<c.Au.length→1≤(gt c.Au j).Bf∧(gt c.Au j).Bf≤5:=fun j hj=>by
          have:=qah.1 hA j hj
          rw [jc] at this
          exact qrx this.1
        simp only [cond_true,jw]
        refine Ev.bind (qsK hc.Au hk) ?_
        simp only [(qsY hm hm5).2,ja,
          show idx (vecC (fun k=>kindN c.Au k c.Au.length) 6) (1:Int)=some ((kindN c.Au 1 c.Au.length:Nat):Int) from qj1 (k:=1) (by omega),
          show idx (vecC (fun k=>kindN c.Au k c.Au.length) 6) (2:Int)=some ((kindN c.Au 2 c.Au.length:Nat):Int) from qj1 (k:=2) (by omega),
          show idx (vecC (fun k=>kindN c.Au k c.Au.length) 6) (3:Int)=some ((kindN c.Au 3 c.Au.length:Nat):Int) from qj1 (k:=3) (by omega),qrw,qt1]
        unfold kindB
        refine Ev.iff (fun _=>?_) (fun _=>Ev.iff (fun _=>?_) (fun _=>Ev.iff (fun _=>?_) (fun _=>.done)))
        · refine Ev.bind hL3 ?_
          cases (c.Br.all fun x=>inI x 0 1)
          · exact Ev.now (by simp)
          · exact (Ev.andP (fun _=>.done)).cast (by rw [Bool.and_true])
        · refine (Ev.andP fun _=>Ev.andP fun _=>Ev.andP fun _=>.done).cast ?_
          cases (((clkN c.Be c.Be.length:Nat):Int)==1)<;>cases ((c.Br.length:Int)==0)<;>cases hasB c.Au ((1:Nat):Int)<;>cases hasB c.Au ((2:Nat):Int)<;>cases hasB c.Au ((3:Nat):Int)<;>rfl
        · refine (Ev.andP fun _=>Ev.andP fun _=>Ev.andP fun _=>Ev.andP fun _=>.done).cast ?_
          cases (((clkN c.Be c.Be.length:Nat):Int)==1)<;>cases ((c.Br.length:Int)==0)<;>cases hasB c.Au ((1:Nat):Int)<;>cases hasB c.Au ((2:Nat):Int)<;>cases hasB c.Au ((3:Nat):Int)<;>rfl
def libB (l:qp):Bool:=l.Aq.all cellB&&(decide (l.Aq.length≤8)&&namesB (l.Aq.map qB.Bb))
theorem qsa {l:qp} (h:qhv l):Ev (fun n=>qiq n l) (libB l):=by
  have hl:=h.Aq.len
  have hL:Ev (fun n=>qct l n ([]:List ByteArray) 0) (bif allN (fun j=>cellB (gt l.Aq j)) l.Aq.length then .nxt (l.Aq.map qB.Bb,(l.Aq.length:Int)) else .ret false):=by
    refine loopN (Lf:=qct l) (S:=fun j=>(l.Aq.take j).map qB.Bb) (fun j=>cellB (gt l.Aq j)) (fun n=>?_) (fun j hj hp X hX=>?_)
    · simp only [qct,qk (jb _),cond_false,jB]
    · simp only [qct,qj hj,cond_true,qA hj,ja,qlr hj hl,qfE (g:=qB.Bb) hj,wS j]
      exact Ev.chk1 (qvg (qmt h.Aq hj)) hX
  unfold qiq libB
  rw [qhS]
  refine Ev.bind hL ?_
  cases allN (fun j=>cellB (gt l.Aq j)) l.Aq.length
  · exact .done
  · simp only [cond_true,jw,show decide ((l.Aq.length:Int)≤8)=decide (l.Aq.length≤8) from qm7 (k:=8)]
    exact Ev.andP fun _=>Ev.last (qi9 (qnd h.Aq (fun x hx=>hx.Bb)))
end Go.Fw


namespace Go.Fw
open Go
set_option maxRecDepth 100000
theorem qtx {c:qB} (h:cellB c=true):nameB c.Bb=true:=by
 unfold cellB at h;rw [jc] at h;exact h.1
theorem qiz {c:qB} (h:cellB c=true):pinsB c.Be=true:=by
 unfold cellB at h;simp only [jc] at h;exact h.2.1
theorem qra {l:qp} (h:qhv l):Ev (fun n=>qh1 n l) (libB l):=by
 have hl:=h.Aq.len
 have hL2:∀ j,j<l.Aq.length→Ev (fun n=>qdr l (j:Int) n 0) (bif allN (neB (l.Aq.map qB.Bb) j) j then .nxt (j:Int) else .ret false):=by
  intro j hj
  refine qeb ?_ (fun i hi X hX=>Ev.succ ?_)
  ·exact Ev.succ (by simp only [qdr,qk (jb _),cond_false];exact .done)
  ·simp only [qdr,qj hi,cond_true,qA (show i<l.Aq.length by omega),qA hj,ja,qg5,wS i]
   unfold neB
   rw [qjU (g:=qB.Bb) (show i<l.Aq.length by omega),qjU (g:=qB.Bb) hj]
   exact Ev.chkP1 (fun _=>hX)
 have hL1:Ev (fun n=>qdo l n 0) (bif allN (fun j=>cellB (gt l.Aq j)&&allN (neB (l.Aq.map qB.Bb) j) j) l.Aq.length then .nxt (l.Aq.length:Int) else .ret false):=by
  refine qeb ?_ (fun j hj X hX=>Ev.succ ?_)
  ·exact Ev.succ (by simp only [qdo,qk (jb _),cond_false];exact .done)
  ·simp only [qdo,qj hj,cond_true,qA hj,ja,wS j]
   refine Ev.chk (quc (qmt h.Aq hj)) fun _=>Ev.bind (hL2 j hj) ?_
   cases allN (neB (l.Aq.map qB.Bb) j) j
   ·exact .done
   ·exact hX
 have e:libB l=(allN (fun j=>cellB (gt l.Aq j)&&allN (neB (l.Aq.map qB.Bb) j) j) l.Aq.length&&decide (l.Aq.length≤8)):=by
  unfold libB namesB
  rw [qhS,jv,Bool.and_comm (decide (l.Aq.length≤8)),←Bool.and_assoc,←qls]
  congr 1
  refine qhC (fun j hj=>?_)
  rw [qjU (g:=qB.Bb) hj]
  cases hc:cellB (gt l.Aq j)
  ·rfl
  ·rw [qtx hc];rfl
 rw [e]
 unfold qh1
 refine Ev.bind hL1 ?_
 cases allN (fun j=>cellB (gt l.Aq j)&&allN (neB (l.Aq.map qB.Bb) j) j) l.Aq.length
 ·exact .done
 ·refine Ev.now ?_
  show some (decide ((l.Aq.length:Int)≤((8:Nat):Int)))=some (true&&decide (l.Aq.length≤8))
  rw [qm7,jw]
theorem qlA {c c':Nat→Nat} {m:Nat} {x:Int} (h0:0≤x) (h1:x<m) (hc:c x.toNat<9223372036854775807) (he:∀ k,k<m→c' k=c k+(bif x==(k:Int) then 1 else 0)) :
  idx (vecC c m) x=some (c x.toNat:Int)∧setS (vecC c m) x (W64 ((c x.toNat:Int)+1))=vecC c' m:=by
 have ex:x=(x.toNat:Int):=qea h0
 have e1:=qj1 (c:=c) (m:=m) (k:=x.toNat) (by omega)
 have e2:=qrq (c:=c) (m:=m) (k:=x.toNat) hc
 rw [←ex] at e1 e2
 refine ⟨e1,e2.trans (qj2 (fun k hk=>?_))⟩
 rw [he k hk]
 congr 2
 rw [jh];simp;omega
def netB (d:qd) (x:Int):Bool:=inI x 0 ((d.Am.length:Int)-1)
theorem qsG {n:Nat} {d:qd} {x:Int} (hl:d.Am.length≤1048576):qdp n d x=some (netB d x):=by
 simp only [qdp,qhx,ja,qcY,qeQ (show d.Am.length≤9223372036854775807 by omega)];rfl
theorem qrd {n:Nat} {d:qd} {x:Int} (hl:d.Am.length≤1048576):qap n x 0 (W64 ((d.Am.length:Int)-1))=some (netB d x):=by
 rw [qcF,qeQ (show d.Am.length≤9223372036854775807 by omega)];rfl
def hasNamesB (d:qd):Bool:=(decide (d.Aa.length≤14)&&(decide (d.Am.length≤30)&&decide (d.Aj.length≤8)))&&(namesB (d.Aa.map qn.Bb)&&(namesB d.Am&&namesB (d.Aj.map qam.Bb)))
theorem qtf {d:qd} (h:qjW d):Ev (fun n=>qeM n d) (hasNamesB d):=by
 have hli:=h.Aa.len
 have hlp:=h.Aj.len
 have hL1:Ev (fun n=>qbf d n ([]:List ByteArray) 0) (d.Aa.map qn.Bb,(d.Aa.length:Int)):=by
  refine loopF (Lf:=qbf d) (S:=fun j=>(d.Aa.take j).map qn.Bb) (len:=d.Aa.length) (fun n=>?_) (fun j hj X hX=>?_)
  ·simp only [qbf,qk (jb _),cond_false,jB]
  ·simpa only [qbf,qj hj,cond_true,qA hj,ja,qlr hj hli,qfE (g:=qn.Bb) hj,wS j] using hX
 have hL2:Ev (fun n=>qbc d n ([]:List ByteArray) 0) (d.Aj.map qam.Bb,(d.Aj.length:Int)):=by
  refine loopF (Lf:=qbc d) (S:=fun j=>(d.Aj.take j).map qam.Bb) (len:=d.Aj.length) (fun n=>?_) (fun j hj X hX=>?_)
  ·simp only [qbc,qk (jb _),cond_false,jB]
  ·simpa only [qbc,qj hj,cond_true,qA hj,ja,qlr hj hlp,qfE (g:=qam.Bb) hj,wS j] using hX
 unfold qeM hasNamesB
 refine Ev.bind hL1 (Ev.bind hL2 ?_)
 simp only [jv]
 rw [show decide ((d.Aa.length:Int)≤14)=decide (d.Aa.length≤14) from qm7 (k:=14),show decide ((d.Am.length:Int)≤30)=decide (d.Am.length≤30) from qm7 (k:=30),show decide ((d.Aj.length:Int)≤8)=decide (d.Aj.length≤8) from qm7 (k:=8)]
 rw [Bool.and_assoc,Bool.and_assoc]
 exact Ev.andP fun _=>Ev.andP fun _=>Ev.andP fun _=>Ev.and (qi9 (qnd h.Aa (fun x hx=>hx.Bb))) fun _=>Ev.and (qi9 h.Am) fun _=>Ev.last (qi9 (qnd h.Aj (fun x hx=>hx.Bb)))
def instB (l:qp) (d:qd) (x:qn):Bool:=inI x.Bs 0 ((l.Aq.length:Int)-1)&&(((x.Am.length:Int)==((gt l.Aq x.Bs.toNat).Be.length:Int))&&x.Am.all (netB d))
theorem qqU {d:qd} {l:qp} {x:qn} (hn:d.Am.length≤1048576) (hc:l.Aq.length≤1048576) (hx:x.Am.length≤1048576):Ev (fun n=>qdL n d l x) (instB l d x):=by
 simp only [qdL,qf4,ja,qcY,qeQ (show l.Aq.length≤9223372036854775807 by omega)]
 unfold instB
 refine Ev.andP fun hI=>?_
 rw [qa7] at hI
 rw [qdy hI.1 (by omega)]
 simp only [ja]
 refine Ev.andP fun _=>Ev.bind (b:=x.Am.any fun y=>!netB d y) ?_ (Ev.now (by rw [qoc]))
 unfold qaK
 exact Ev.bind (b:=ixL (fun y=>!netB d y) x.Am) (qfh (fin:=(x.Am.length:Int)) (Lf:=qG x.Am d) (pf:=fun n y=>qda n y d) (fun y _=>⟨0,fun n _=>by simp only [qda,qsG hn,ja]⟩)
   (fun n=>by simp only [qG,qk (jb _),cond_false])
   (fun n j y hx=>by
    have hj:=(List.getElem?_eq_some_iff.1 hx).1
    simp only [qG,qj hj,cond_true,qax hx,ja,wS j])
   (fun n=>by unfold qaY;congr 1;funext o;cases o<;>rfl)) (Ev.now (by rw [qmZ]))
def portB (d:qd) (p:qam):Bool:=inI p.Bv 1 2&&netB d p.Bx
theorem qyj {x:Int}:inI x 1 2=((x==1) || (x==2)):=by
 unfold inI;rw [jh];simp;omega
def lastN (x:qn):Int:=at0 x.Am (x.Am.length-1)
theorem qsP {x:qn} (h1:1≤x.Am.length) (h2:x.Am.length≤1048576):idx x.Am (W64 ((x.Am.length:Int)-1))=some (lastN x):=by
 rw [qeQ (by omega),show ((x.Am.length:Int)-1)=((x.Am.length-1:Nat):Int) by omega,qaf (by omega)];rfl
theorem quK {d:qd} {x:qn} (h1:1≤x.Am.length) (h:x.Am.all (netB d)=true):0≤lastN x∧lastN x<d.Am.length:=by
 rw [qgs (d:=0),qah] at h
 have:=h (x.Am.length-1) (by omega)
 unfold netB at this
 rw [qa7] at this
 unfold lastN at0
 omega
theorem qqy {l:qp} {d:qd} {x:qn} (hl:libB l=true) (h:instB l d x=true):1≤x.Am.length∧0≤lastN x∧lastN x<d.Am.length:=by
 unfold instB at h
 simp only [jc,qa7,beq_iff_eq] at h
 obtain ⟨h1,h2,h3⟩:=h
 unfold libB at hl
 simp only [jc] at hl
 have hc:=hl.1
 rw [qhS,qah] at hc
 have:=qgi (qiz (hc x.Bs.toNat (by omega)))
 have h4:1≤x.Am.length:=by omega
 exact ⟨h4,quK h4 h3⟩
def drvI (d:qd) (k j:Nat):Nat:=cntP (fun i=>lastN (gt d.Aa i)==(k:Int)) j
def drvP (d:qd) (k j:Nat):Nat:=cntP (fun i=>((gt d.Aj i).Bv==1)&&((gt d.Aj i).Bx==(k:Int))) j
def drvB (d:qd):Bool:=allN (fun k=>((drvI d k d.Aa.length+drvP d k d.Aj.length:Nat):Int)==1) d.Am.length
def designB (l:qp) (d:qd):Bool:=(libB l&&hasNamesB d)&&(d.Aa.all (instB l d)&&(d.Aj.all (portB d)&&drvB d))
theorem qov {d:qd} {k j:Nat}:drvI d k (j+1)=drvI d k j+(bif lastN (gt d.Aa j)==(k:Int) then 1 else 0):=rfl
theorem qm8 {d:qd} {k j:Nat}:drvP d k (j+1)=drvP d k j+(bif ((gt d.Aj j).Bv==1)&&((gt d.Aj j).Bx==(k:Int)) then 1 else 0):=rfl
theorem qtj {l:qp} {d:qd} (h:qhv l) (hd:qjW d):Ev (fun n=>qiO n l d) (designB l d):=by
 have hli:=hd.Aa.len
 have hlp:=hd.Aj.len
 have hln:=hd.Am.len
 have hlc:=h.Aq.len
 unfold qiO designB
 refine Ev.guardB (Ev.or (qsa h) fun _=>Ev.neg (qtf hd)) fun hb=>?_
 rw [jc] at hb
 rw [qm4 (m:=d.Am.length) (by omega)]
 simp only [ja]
 have hL1:Ev (fun n=>qc3 l d n (vecC (fun _=>0) d.Am.length) 0) (bif allN (fun j=>instB l d (gt d.Aa j)) d.Aa.length then .nxt (vecC (fun k=>drvI d k d.Aa.length) d.Am.length,(d.Aa.length:Int)) else .ret false):=by
  refine loopN (Lf:=qc3 l d) (S:=fun j=>vecC (fun k=>drvI d k j) d.Am.length) (fun j=>instB l d (gt d.Aa j)) (fun n=>?_) (fun j hj hp X hX=>?_)
  ·simp only [qc3,qk (jb _),cond_false]
  ·simp only [qc3,qj hj,cond_true,qA hj,ja,wS j]
   have hxl:=(qmt hd.Aa hj).Am.len
   refine Ev.chk1 (qqU hln hlc hxl) fun hi=>?_
   obtain ⟨h1,h2,h3⟩:=qqy hb.1 hi
   have hc:drvI d (lastN (gt d.Aa j)).toNat j≤j:=qfA
   obtain ⟨e1,e2⟩:=qlA (c:=fun k=>drvI d k j) (c':=fun k=>drvI d k (j+1)) h2 h3 (by show drvI _ _ _<_;omega) (fun k _=>qov)
   simp only [qsP h1 hxl,ja,e1,e2]
   exact hX hi
 have hL2:Ev (fun n=>qcg d n (vecC (fun k=>drvI d k d.Aa.length) d.Am.length) 0) (bif allN (fun j=>portB d (gt d.Aj j)) d.Aj.length then .nxt (vecC (fun k=>drvI d k d.Aa.length+drvP d k d.Aj.length) d.Am.length,(d.Aj.length:Int)) else .ret false):=by
  refine loopN (Lf:=qcg d) (S:=fun j=>vecC (fun k=>drvI d k d.Aa.length+drvP d k j) d.Am.length) (fun j=>portB d (gt d.Aj j)) (fun n=>?_) (fun j hj hp X hX=>?_)
  ·simp only [qcg,qk (jb _),cond_false]
  ·simp only [qcg,qj hj,cond_true,qA hj,ja,qsG hln,bne,wS j]
   refine Ev.chkT1 ?_ fun hi=>?_
   ·unfold portB
    rw [qyj]
    cases ((gt d.Aj j).Bv==1)<;>cases ((gt d.Aj j).Bv==2)<;>exact .done
   ·have hX:=hX hi
    unfold portB netB at hi
    simp only [jc,qa7] at hi
    have hc1:drvI d (gt d.Aj j).Bx.toNat d.Aa.length≤d.Aa.length:=qfA
    have hc2:drvP d (gt d.Aj j).Bx.toNat j≤j:=qfA
    cases h1:((gt d.Aj j).Bv==1)
    ·have:vecC (fun k=>drvI d k d.Aa.length+drvP d k (j+1)) d.Am.length=vecC (fun k=>drvI d k d.Aa.length+drvP d k j) d.Am.length:=by
      refine qj2 (fun k _=>?_)
      rw [qm8,h1];rfl
     rw [this] at hX
     exact hX
    ·obtain ⟨e1,e2⟩:=qlA (c:=fun k=>drvI d k d.Aa.length+drvP d k j) (c':=fun k=>drvI d k d.Aa.length+drvP d k (j+1)) (x:=(gt d.Aj j).Bx) (m:=d.Am.length) hi.2.1 (by omega) (by show drvI _ _ _+drvP _ _ _<_;omega) (fun k _=>by rw [qm8,h1,jw];omega)
     simp only [cond_true,ja,e1,e2]
     exact hX
 rw [qhS,qhS]
 refine Ev.bind hL1 ?_
 cases allN (fun j=>instB l d (gt d.Aa j)) d.Aa.length
 ·exact .done
 ·refine Ev.bind hL2 ?_
  cases allN (fun j=>portB d (gt d.Aj j)) d.Aj.length
  ·exact .done
  ·simp only [cond_true,jw]
   unfold qbE
   refine Ev.bind (b:=(vecC (fun k=>drvI d k d.Aa.length+drvP d k d.Aj.length) d.Am.length).any fun x=>!(x==1)) (Ev.bind (b:=ixL (fun x=>!(x==1)) (vecC (fun k=>drvI d k d.Aa.length+drvP d k d.Aj.length) d.Am.length)) (qfh (fin:=(((vecC (fun k=>drvI d k d.Aa.length+drvP d k d.Aj.length) d.Am.length).length:Nat):Int)) (Lf:=qaj (vecC (fun k=>drvI d k d.Aa.length+drvP d k d.Aj.length) d.Am.length)) (pf:=fun n y=>qjt n y) (fun y _=>.done)
    (fun n=>by simp only [qaj,qk (jb _),cond_false])
    (fun n j y hx=>by
     have hj:=(List.getElem?_eq_some_iff.1 hx).1
     have:j<d.Am.length:=by rw [qmO] at hj;exact hj
     simp only [qaj,qj hj,cond_true,qax hx,ja,wS j])
    (fun n=>by unfold qbZ;congr 1;funext o;cases o<;>rfl)) (Ev.now (by rw [qmZ]))) (Ev.now ?_)
   rw [qoc,qgs (d:=0),qmO]
   unfold drvB
   congr 1
   exact qhC (fun k hk=>by
    have:=qsA (c:=fun k=>drvI d k d.Aa.length+drvP d k d.Aj.length) hk
    unfold at0 at this
    rw [this])
theorem qsZ {l:qp} {d:qd} (h:qhv l) (hd:qjW d):Ev (fun n=>qiJ n l d) (d.Aa.all (instB l d)&&d.Aj.all (portB d)):=by
 have hli:=hd.Aa.len
 have hlp:=hd.Aj.len
 have hln:=hd.Am.len
 have hlc:=h.Aq.len
 have hL2:∀ x:qn,x.Am.length≤1048576→Ev (fun n=>qd2 d x n 0) (bif x.Am.all (netB d) then .nxt (x.Am.length:Int) else .ret false):=fun x hx =>
  qoq (fun n=>by simp only [qd2,qk (jb _),cond_false]) (fun j hj X hX=>by
   simp only [qd2,qj hj,cond_true,qh2 hj,ja,qrd hln,wS j,qcX]
   exact Ev.okP1 fun _=>hX)
 have hL1:Ev (fun n=>qd6 l d n 0) (bif allN (fun j=>instB l d (gt d.Aa j)) d.Aa.length then .nxt (d.Aa.length:Int) else .ret false):=by
  refine qeb ?_ (fun j hj X hX=>Ev.succ ?_)
  ·exact Ev.succ (by simp only [qd6,qk (jb _),cond_false];exact .done)
  ·simp only [qd6,qj hj,cond_true,qA hj,ja,qcF,qeQ (show l.Aq.length≤9223372036854775807 by omega),wS j,bne]
   have hxl:=(qmt hd.Aa hj).Am.len
   unfold instB
   rw [←Bool.and_assoc]
   refine Ev.chkT ?_ fun _=>Ev.bind (hL2 _ hxl) ?_
   ·simp only [qcX]
    refine Ev.orBP fun hI=>?_
    rw [qa7] at hI
    rw [qdy hI.1 (by omega)]
    exact .done
   ·cases (gt d.Aa j).Am.all (netB d)
    ·exact .done
    ·exact hX
 have hL3:Ev (fun n=>qdY d n 0) (bif allN (fun j=>portB d (gt d.Aj j)) d.Aj.length then .nxt (d.Aj.length:Int) else .ret false):=by
  refine qeb ?_ (fun j hj X hX=>Ev.succ ?_)
  ·exact Ev.succ (by simp only [qdY,qk (jb _),cond_false];exact .done)
  ·simp only [qdY,qj hj,cond_true,qA hj,ja,qrd hln,wS j]
   simp only [qcF,ja,qcX]
   unfold portB
   exact Ev.okP fun _=>Ev.okP1 fun _=>hX
 unfold qiJ
 rw [qhS,qhS]
 refine Ev.bind hL1 ?_
 cases allN (fun j=>instB l d (gt d.Aa j)) d.Aa.length
 ·exact .done
 ·refine Ev.bind hL3 ?_
  cases allN (fun j=>portB d (gt d.Aj j)) d.Aj.length<;>exact .done
theorem qrP {l:qp} {d:qd} (h:qhv l) (hd:qjW d):Ev (fun n=>qiQ n l d) (designB l d):=by
 have hli:=hd.Aa.len
 have hlp:=hd.Aj.len
 have hln:=hd.Am.len
 have hlc:=h.Aq.len
 have e:designB l d=((libB l&&(decide (d.Aa.length≤14)&&(decide (d.Am.length≤30)&&(decide (d.Aj.length≤8)&&(d.Aa.all (instB l d)&&d.Aj.all (portB d))))))&&((namesB (d.Aa.map qn.Bb)&&(namesB (d.Aj.map qam.Bb)&&namesB d.Am))&&drvB d)):=by
  unfold designB hasNamesB
  generalize libB l=a1
  generalize decide (d.Aa.length≤14)=a2
  generalize decide (d.Am.length≤30)=a3
  generalize decide (d.Aj.length≤8)=a4
  generalize d.Aa.all (instB l d)=a5
  generalize d.Aj.all (portB d)=a6
  generalize namesB (d.Aa.map qn.Bb)=a7
  generalize namesB (d.Aj.map qam.Bb)=a8
  generalize namesB d.Am=a9
  generalize drvB d=a10
  rw [jh]
  simp only [jc]
  constructor
  ·rintro ⟨⟨h1,⟨h2,h3,h4⟩,h7,h9,h8⟩,h5,h6,h10⟩
   exact ⟨⟨h1,h2,h3,h4,h5,h6⟩,⟨h7,h8,h9⟩,h10⟩
  ·rintro ⟨⟨h1,h2,h3,h4,h5,h6⟩,⟨h7,h8,h9⟩,h10⟩
   exact ⟨⟨h1,⟨h2,h3,h4⟩,h7,h9,h8⟩,h5,h6,h10⟩
 rw [e]
 unfold qiQ
 refine Ev.guardB ?_ fun hb=>?_
 ·refine Ev.or (qra h) fun _=>?_
  rw [show decide ((d.Aa.length:Int) > 14) = !decide (d.Aa.length≤14) by rw [jh];simp;omega,show decide ((d.Am.length:Int) > 30) = !decide (d.Am.length≤30) by rw [jh];simp;omega,show decide ((d.Aj.length:Int) > 8) = !decide (d.Aj.length≤8) by rw [jh];simp;omega]
  simp only [qcX]
  exact Ev.orBP fun _=>Ev.orBP fun _=>Ev.orBP fun _=>Ev.neg (qsZ h hd)
 ·simp only [jc] at hb
  obtain ⟨hlib,_,_,_,hI,hP⟩:=hb
  rw [qhS,qah] at hI hP
  have hL1:Ev (fun n=>qc0 d n ([]:List ByteArray) 0) (d.Aa.map qn.Bb,(d.Aa.length:Int)):=by
   refine loopF (Lf:=qc0 d) (S:=fun j=>(d.Aa.take j).map qn.Bb) (len:=d.Aa.length) (fun n=>?_) (fun j hj X hX=>?_)
   ·simp only [qc0,qk (jb _),cond_false,jB]
   ·simpa only [qc0,qj hj,cond_true,qA hj,ja,qlr hj hli,qfE (g:=qn.Bb) hj,wS j] using hX
  have hL2:Ev (fun n=>qc6 d n ([]:List ByteArray) 0) (d.Aj.map qam.Bb,(d.Aj.length:Int)):=by
   refine loopF (Lf:=qc6 d) (S:=fun j=>(d.Aj.take j).map qam.Bb) (len:=d.Aj.length) (fun n=>?_) (fun j hj X hX=>?_)
   ·simp only [qc6,qk (jb _),cond_false,jB]
   ·simpa only [qc6,qj hj,cond_true,qA hj,ja,qlr hj hlp,qfE (g:=qam.Bb) hj,wS j] using hX
  have hL3:Ev (fun n=>qc2 d n (vecC (fun _=>0) d.Am.length) 0) (vecC (fun k=>drvI d k d.Aa.length) d.Am.length,(d.Aa.length:Int)):=by
   refine loopF (Lf:=qc2 d) (S:=fun j=>vecC (fun k=>drvI d k j) d.Am.length) (len:=d.Aa.length) (fun n=>?_) (fun j hj X hX=>?_)
   ·simp only [qc2,qk (jb _),cond_false]
   ·have hxl:=(qmt hd.Aa hj).Am.len
    obtain ⟨h1,h2,h3⟩:=qqy hlib (hI j hj)
    have hc:drvI d (lastN (gt d.Aa j)).toNat j≤j:=qfA
    obtain ⟨e1,e2⟩:=qlA (c:=fun k=>drvI d k j) (c':=fun k=>drvI d k (j+1)) h2 h3 (by show drvI _ _ _<_;omega) (fun k _=>qov)
    simpa only [qc2,qj hj,cond_true,qA hj,ja,wS j,qsP h1 hxl,e1,e2] using hX
  have hL4:Ev (fun n=>qcm d n (vecC (fun k=>drvI d k d.Aa.length) d.Am.length) 0) (vecC (fun k=>drvI d k d.Aa.length+drvP d k d.Aj.length) d.Am.length,(d.Aj.length:Int)):=by
   refine loopF (Lf:=qcm d) (S:=fun j=>vecC (fun k=>drvI d k d.Aa.length+drvP d k j) d.Am.length) (len:=d.Aj.length) (fun n=>?_) (fun j hj X hX=>?_)
   ·simp only [qcm,qk (jb _),cond_false]
   ·have hi:=hP j hj
    unfold portB netB at hi
    simp only [jc,qa7] at hi
    have hc1:drvI d (gt d.Aj j).Bx.toNat d.Aa.length≤d.Aa.length:=qfA
    have hc2:drvP d (gt d.Aj j).Bx.toNat j≤j:=qfA
    simp only [qcm,qj hj,cond_true,qA hj,ja,wS j]
    cases h1:((gt d.Aj j).Bv==1)
    ·have:vecC (fun k=>drvI d k d.Aa.length+drvP d k (j+1)) d.Am.length=vecC (fun k=>drvI d k d.Aa.length+drvP d k j) d.Am.length:=by
      refine qj2 (fun k _=>?_)
      rw [qm8,h1];rfl
     rw [this] at hX
     exact hX
    ·obtain ⟨e1,e2⟩:=qlA (c:=fun k=>drvI d k d.Aa.length+drvP d k j) (c':=fun k=>drvI d k d.Aa.length+drvP d k (j+1)) (x:=(gt d.Aj j).Bx) (m:=d.Am.length) hi.2.1 (by omega) (by show drvI _ _ _+drvP _ _ _<_;omega) (fun k _=>by rw [qm8,h1,jw];omega)
     simp only [cond_true,ja,e1,e2]
     exact hX
  have hL5:Ev (fun n=>qd7 (vecC (fun _=>0) d.Am.length) (vecC (fun k=>drvI d k d.Aa.length+drvP d k d.Aj.length) d.Am.length) n 0) (bif drvB d then .nxt (d.Am.length:Int) else .ret false):=by
   refine qeb ?_ (fun j hj X hX=>Ev.succ ?_)
   ·exact Ev.succ (by simp only [qd7,qmO,qk (jb _),cond_false];exact .done)
   ·simp only [qd7,qmO,qj hj,cond_true,qj1 hj,ja,bne,qcX,wS j]
    exact Ev.okP1 fun _=>hX
  refine Ev.bind hL1 (Ev.bind hL2 ?_)
  refine Ev.guardB (Ev.or (qmT (qnd hd.Aa (fun x hx=>hx.Bb))) fun _=>Ev.or (qmT (qnd hd.Aj (fun x hx=>hx.Bb))) fun _=>Ev.neg (qmT hd.Am)) fun _=>?_
  rw [qm4 (m:=d.Am.length) (by omega)]
  simp only [ja]
  refine Ev.bind hL3 (Ev.bind hL4 (Ev.bind hL5 ?_))
  cases drvB d<;>exact .done
end Go.Fw


namespace Go.Fw
open Go
set_option maxRecDepth 100000
theorem qxs {m k:Nat}:decide ((m:Int)<(k:Int)) = !decide (k≤m):=by rw [jh];simp
theorem qxe {m k:Nat}:decide ((m:Int) > (k:Int)) = !decide (m≤k):=by rw [jh];simp
def treeB (w:qQ) (j:Nat):Bool:=bif decide (j=0) then (at0 w.Ak j==-1)&&(at0 w.Bw j==0) else inI (at0 w.Ak j) 0 ((j:Int)-1)
def wireB (w:qQ) (s:Int):Bool :=
 lenB w.Ak 1 8&&(((w.Bw.length:Int)==(w.Ak.length:Int))&&(((w.Bt.length:Int)==(w.Ak.length:Int))&&(allN (treeB w) w.Ak.length &&
  ((w.Bw.all fun x=>inI x 0 1000)&&((w.Bt.all fun x=>inI x 0 500)&&(((w.Bl.length:Int)==s)&&(w.Bl.all fun x=>inI x 0 ((w.Ak.length:Int)-1))))))))
theorem quN {w:qQ} (hl:w.Ak.length≤1048576) (hr:((w.Bw.length:Int)==(w.Ak.length:Int))=true):Ev (fun n=>qgW n w) (allN (treeB w) w.Ak.length):=by
 rw [beq_iff_eq] at hr
 have hL:Ev (fun n=>qa5 w n 0) (bif allN (treeB w) w.Ak.length then .nxt (w.Ak.length:Int) else .ret false):=by
  refine qeb ?_ (fun j hj X hX=>Ev.succ ?_)
  ·exact Ev.succ (by simp only [qa5,qk (jb _),cond_false];exact .done)
  ·simp only [qa5,qj hj,cond_true,qaf hj,ja,qcY,wS j,bne,qcX]
   unfold treeB
   by_cases h0:j=0
   ·subst h0
    rw [show idx w.Bw (0:Int)=some (at0 w.Bw 0) from qaf (j:=0) (by omega)]
    simp only [ja]
    refine Ev.tt (by simp) (Ev.okP fun _=>Ev.okP1 fun _=>Ev.ff (by simp) hX)
   ·have e1:decide (j=0)=false:=by simp;omega
    have e2:((j:Int)==0)=false:=by simp;omega
    have e3:decide ((j:Int) > 0)=true:=by simp;omega
    rw [e1,e2,e3,qeQ (show j≤9223372036854775807 by omega)]
    simp only [cond_false,cond_true]
    exact Ev.okP1 fun _=>hX
 unfold qgW
 refine Ev.bind hL ?_
 cases allN (treeB w) w.Ak.length<;>exact .done
theorem qu4 {w:qQ} {s:Int} (h:qn0 w):Ev (fun n=>qkO n w s) (wireB w s):=by
 have hl:=h.Ak.len
 simp only [qkO,qbl,ja,qcY,qeQ (show w.Ak.length≤9223372036854775807 by omega)]
 unfold wireB
 rw [show inI (w.Ak.length:Int) 1 8=lenB w.Ak 1 8 from qrX (lo:=1) (hi:=8)]
 exact Ev.andP fun _=>Ev.andP fun hr=>Ev.andP fun _=>Ev.and (quN hl hr) fun _=>Ev.and (qdM h.Bw.len) fun _=>Ev.and (qdM h.Bt.len) fun _=>Ev.andP fun _=>Ev.last (qdM h.Bl.len)
theorem que {w:qQ} {s:Int} (h:qn0 w):Ev (fun n=>qkL n w s) (wireB w s):=by
 have hl:=h.Ak.len
 have hsl:=h.Bl.len
 have e:wireB w s=((decide (1≤w.Ak.length)&&(decide (w.Ak.length≤8)&&(((w.Bw.length:Int)==(w.Ak.length:Int))&&(((w.Bt.length:Int)==(w.Ak.length:Int))&&((w.Bl.length:Int)==s)))))&&(allN (fun j=>(inI (at0 w.Bt j) 0 500&&inI (at0 w.Bw j) 0 1000)&&treeB w j) w.Ak.length&&(w.Bl.all fun x=>inI x 0 ((w.Ak.length:Int)-1)))):=by
  unfold wireB lenB
  cases h1:((w.Bw.length:Int)==(w.Ak.length:Int))
  ·simp
  ·cases h2:((w.Bt.length:Int)==(w.Ak.length:Int))
   ·simp
   ·rw [beq_iff_eq] at h1 h2
    rw [qls,qls]
    rw [qgs (p:=fun x=>inI x 0 1000) (d:=0),qgs (p:=fun x=>inI x 0 500) (d:=0),show w.Bw.length=w.Ak.length by omega,show w.Bt.length=w.Ak.length by omega]
    show _=(_&&((allN (fun j=>inI (w.Bt.getD j 0) 0 500) _&&allN (fun j=>inI (w.Bw.getD j 0) 0 1000) _&&_)&&_))
    generalize allN (fun j=>inI (w.Bt.getD j 0) 0 500) w.Ak.length=a1
    generalize allN (fun j=>inI (w.Bw.getD j 0) 0 1000) w.Ak.length=a2
    generalize allN (fun j=>treeB w j) w.Ak.length=a3
    generalize ((w.Bl.length:Int)==s)=a4
    generalize decide (1≤w.Ak.length)=a5
    generalize decide (w.Ak.length≤8)=a6
    generalize (w.Bl.all fun x=>inI x 0 ((w.Ak.length:Int)-1))=a7
    cases a1<;>cases a2<;>cases a3<;>cases a4<;>cases a5<;>cases a6<;>rfl
 rw [e]
 unfold qkL
 refine Ev.guardB ?_ fun hb=>?_
 ·rw [show decide ((w.Ak.length:Int)<1) = !decide (1≤w.Ak.length) from qxs (k:=1),show decide ((w.Ak.length:Int) > 8) = !decide (w.Ak.length≤8) from qxe (k:=8)]
  simp only [bne,qcX]
  exact Ev.orBP fun _=>Ev.orBP fun _=>Ev.orBP fun _=>Ev.orBP fun _=>.done
 ·simp only [jc,beq_iff_eq] at hb
  have hL1:Ev (fun n=>qcz w n 0) (bif allN (fun j=>(inI (at0 w.Bt j) 0 500&&inI (at0 w.Bw j) 0 1000)&&treeB w j) w.Ak.length then .nxt (w.Ak.length:Int) else .ret false):=by
   refine qeb ?_ (fun j hj X hX=>Ev.succ ?_)
   ·exact Ev.succ (by simp only [qcz,qk (jb _),cond_false];exact .done)
   ·simp only [qcz,qj hj,cond_true,qaf hj,qaf (show j<w.Bt.length by omega),qaf (show j<w.Bw.length by omega),ja,qcF,wS j,bne,qcX]
    refine Ev.chkT (Ev.orBP fun _=>.done) fun _=>?_
    unfold treeB
    by_cases h0:j=0
    ·subst h0
     refine Ev.tt (by simp) (Ev.okP fun _=>Ev.okP1 fun _=>Ev.ff (by simp) hX)
    ·have e1:decide (j=0)=false:=by simp;omega
     have e2:((j:Int)==0)=false:=by simp;omega
     have e3:decide ((j:Int) > 0)=true:=by simp;omega
     rw [e1,e2,e3,qeQ (show j≤9223372036854775807 by omega)]
     simp only [cond_false,cond_true]
     exact Ev.okP1 fun _=>hX
  have hL2:Ev (fun n=>qfb w n 0) (bif (w.Bl.all fun x=>inI x 0 ((w.Ak.length:Int)-1)) then .nxt (w.Bl.length:Int) else .ret false) :=
   qoq (fun n=>by simp only [qfb,qk (jb _),cond_false]) (fun j hj X hX=>by
    simp only [qfb,qj hj,cond_true,qh2 hj,ja,qcF,qeQ (show w.Ak.length≤9223372036854775807 by omega),wS j,qcX]
    exact Ev.okP1 fun _=>hX)
  refine Ev.bind hL1 ?_
  cases allN (fun j=>(inI (at0 w.Bt j) 0 500&&inI (at0 w.Bw j) 0 1000)&&treeB w j) w.Ak.length
  ·exact .done
  ·refine Ev.bind hL2 ?_
   cases (w.Bl.all fun x=>inI x 0 ((w.Ak.length:Int)-1))<;>exact .done
instance:Inhabited Tplace:=⟨⟨0,0,0,false⟩⟩
instance:Inhabited Tl05Place:=⟨⟨0,0,0,false⟩⟩
def toSp (p:Tplace):Tl05Place:=⟨p.instance_,p.pin,p.net,p.drives⟩
def plX (i:Nat) (x:qn) (j:Nat):List Tplace:=(List.range j).map fun (k:Nat)=>⟨(i:Int),(k:Int),at0 x.Am k,decide (k+1=x.Am.length)⟩
def plI (d:qd) (j:Nat):List Tplace:=(List.range j).flatMap fun (i:Nat)=>plX i (gt d.Aa i) (gt d.Aa i).Am.length
def plP (d:qd) (j:Nat):List Tplace:=(List.range j).map fun (i:Nat)=>⟨-1,(i:Int),(gt d.Aj i).Bx,(gt d.Aj i).Bv==1⟩
def places (d:qd):List Tplace:=plI d d.Aa.length++plP d d.Aj.length
theorem qsT {i:Nat} {x:qn} {j:Nat}:plX i x (j+1)=plX i x j++[⟨(i:Int),(j:Int),at0 x.Am j,decide (j+1=x.Am.length)⟩]:=by
 unfold plX;rw [List.range_succ,jP];rfl
theorem qmE {d:qd} {j:Nat}:plI d (j+1)=plI d j++plX j (gt d.Aa j) (gt d.Aa j).Am.length:=by
 unfold plI;rw [List.range_succ,List.flatMap_append];simp
theorem qtk {d:qd} {j:Nat}:plP d (j+1)=plP d j++[⟨-1,(j:Int),(gt d.Aj j).Bx,(gt d.Aj j).Bv==1⟩]:=by
 unfold plP;rw [List.range_succ,jP];rfl
theorem qpR {i:Nat} {x:qn} {j:Nat}:(plX i x j).length=j:=by simp [plX]
theorem qpM {d:qd} {j:Nat}:(plP d j).length=j:=by simp [plP]
structure smallD (d:qd):Prop where
 ni:d.Aa.length≤14
 nn:d.Am.length≤30
 np:d.Aj.length≤8
 nx:∀ i,i<d.Aa.length→2≤(gt d.Aa i).Am.length∧(gt d.Aa i).Am.length≤5
theorem qW {l:qp} {d:qd} (h:designB l d=true):smallD d:=by
 unfold designB hasNamesB libB at h
 simp only [jc,decide_eq_true_eq] at h
 obtain ⟨⟨⟨hc,_⟩,⟨h1,h2,h3⟩,_⟩,hI,_⟩:=h
 refine ⟨h1,h2,h3,fun i hi=>?_⟩
 rw [qhS,qah] at hI hc
 have:=hI i hi
 unfold instB at this
 simp only [jc,qa7,beq_iff_eq] at this
 have h5:=qgi (qiz (hc (gt d.Aa i).Bs.toNat (by omega)))
 omega
theorem qnV {d:qd} (h:smallD d) {j:Nat} (hj:j≤d.Aa.length):(plI d j).length≤5*j:=by
 induction j with
 | zero=>exact jb _
 | succ j ih =>
  rw [qmE,je,qpR]
  have:=ih (by omega)
  have:=h.nx j (by omega)
  omega
theorem qa1 {d:qd} (h:smallD d):(places d).length≤78:=by
 unfold places
 rw [je,qpM]
 have:=qnV h (jb _)
 have:=h.ni
 have:=h.np
 omega
theorem qna {d:qd} (h:smallD d):Ev (fun n=>qce n d) (places d):=by
 have h1:=h.ni
 have h2:=h.np
 have hL2:∀ i,i<d.Aa.length→∀ pre:List Tplace,pre.length≤100→Ev (fun n=>qbA (i:Int) (gt d.Aa i) n pre 0) (pre++plX i (gt d.Aa i) (gt d.Aa i).Am.length,((gt d.Aa i).Am.length:Int)):=by
  intro i hi pre hp
  have h5:=h.nx i hi
  have:=loopF (Lf:=qbA (i:Int) (gt d.Aa i)) (S:=fun j=>pre++plX i (gt d.Aa i) j) (len:=(gt d.Aa i).Am.length) (fin:=(pre++plX i (gt d.Aa i) (gt d.Aa i).Am.length,((gt d.Aa i).Am.length:Int))) (fun n=>by
    simp only [qbA,qk (jb _),cond_false])
   (fun j hj X hX=>by
    have hc:(pre++plX i (gt d.Aa i) j).length+[(⟨(i:Int),(j:Int),at0 (gt d.Aa i).Am j,decide (j+1=(gt d.Aa i).Am.length)⟩:Tplace)].length≤2147483648:=by
     rw [je,qpR];simp;omega
    simp only [qbA,qj hj,cond_true,qaf hj,ja,lastE hj (show (gt d.Aa i).Am.length≤1048576 by omega),qcV hc,jp,←qsT,wS j]
    exact hX)
  simpa [plX] using this
 have hL1:Ev (fun n=>qbz d n ([]:List Tplace) 0) (plI d d.Aa.length,(d.Aa.length:Int)):=by
  refine loopF (Lf:=qbz d) (S:=fun j=>plI d j) (len:=d.Aa.length) (fun n=>?_) (fun j hj X hX=>?_)
  ·simp only [qbz,qk (jb _),cond_false]
  ·simp only [qbz,qj hj,cond_true,qA hj,ja,wS j]
   refine Ev.bind (hL2 j hj _ (by have:=qnV h (Nat.le_of_lt hj);omega)) ?_
   rw [←qmE]
   exact hX
 have hL3:Ev (fun n=>qbC d n (plI d d.Aa.length) 0) (places d,(d.Aj.length:Int)):=by
  have:=loopF (Lf:=qbC d) (S:=fun j=>plI d d.Aa.length++plP d j) (len:=d.Aj.length) (fin:=(places d,(d.Aj.length:Int))) (fun n=>by
    simp only [qbC,qk (jb _),cond_false];rfl)
   (fun j hj X hX=>by
    have hc:(plI d d.Aa.length++plP d j).length+[(⟨-1,(j:Int),(gt d.Aj j).Bx,(gt d.Aj j).Bv==1⟩:Tplace)].length≤2147483648:=by
     rw [je,qpM];have:=qnV h (jb _);simp;omega
    simp only [qbC,qj hj,cond_true,qA hj,ja,qcV hc,jp,←qtk,wS j]
    exact hX)
  simpa [plP] using this
 unfold qce
 exact Ev.bind hL1 (Ev.bind hL3 .done)
theorem qhD {d:qd} (h:smallD d):Ev (fun n=>qb8 n d) ((places d).map toSp):=by
 have h1:=h.ni
 have h2:=h.np
 have hL2:∀ i,i<d.Aa.length→∀ pre:List Tplace,pre.length≤100→Ev (fun n=>qcD (i:Int) (gt d.Aa i) n (pre.map toSp) 0) ((pre++plX i (gt d.Aa i) (gt d.Aa i).Am.length).map toSp,((gt d.Aa i).Am.length:Int)):=by
  intro i hi pre hp
  have h5:=h.nx i hi
  have:=loopF (Lf:=qcD (i:Int) (gt d.Aa i)) (S:=fun j=>(pre++plX i (gt d.Aa i) j).map toSp) (len:=(gt d.Aa i).Am.length) (fin:=((pre++plX i (gt d.Aa i) (gt d.Aa i).Am.length).map toSp,((gt d.Aa i).Am.length:Int))) (fun n=>by
    simp only [qcD,qk (jb _),cond_false])
   (fun j hj X hX=>by
    have hc:((pre++plX i (gt d.Aa i) j).map toSp).length+[(⟨(i:Int),(j:Int),at0 (gt d.Aa i).Am j,decide (j+1=(gt d.Aa i).Am.length)⟩:Tl05Place)].length≤2147483648:=by
     rw [jv,je,qpR];simp;omega
    simp only [qcD,qj hj,cond_true,qaf hj,ja,lastE hj (show (gt d.Aa i).Am.length≤1048576 by omega),qcV hc,wS j]
    rw [qsT,←jp,jP] at hX
    exact hX)
  simpa [plX] using this
 have hL1:Ev (fun n=>qcB d n ([]:List Tl05Place) 0) ((plI d d.Aa.length).map toSp,(d.Aa.length:Int)):=by
  refine loopF (Lf:=qcB d) (S:=fun j=>(plI d j).map toSp) (len:=d.Aa.length) (fun n=>?_) (fun j hj X hX=>?_)
  ·simp only [qcB,qk (jb _),cond_false]
  ·simp only [qcB,qj hj,cond_true,qA hj,ja,wS j]
   refine Ev.bind (hL2 j hj _ (by have:=qnV h (Nat.le_of_lt hj);omega)) ?_
   rw [←qmE]
   exact hX
 have hL3:Ev (fun n=>qcs d n ((plI d d.Aa.length).map toSp) 0) ((places d).map toSp,(d.Aj.length:Int)):=by
  have:=loopF (Lf:=qcs d) (S:=fun j=>(plI d d.Aa.length++plP d j).map toSp) (len:=d.Aj.length) (fin:=((places d).map toSp,(d.Aj.length:Int))) (fun n=>by
    simp only [qcs,qk (jb _),cond_false];rfl)
   (fun j hj X hX=>by
    have hc:((plI d d.Aa.length++plP d j).map toSp).length+[(⟨-1,(j:Int),(gt d.Aj j).Bx,(gt d.Aj j).Bv==1⟩:Tl05Place)].length≤2147483648:=by
     rw [jv,je,qpM];have:=qnV h (jb _);simp;omega
    simp only [qcs,qj hj,cond_true,qA hj,ja,qcV hc,wS j]
    rw [qtk,←jp,jP] at hX
    exact hX)
  simpa [plP] using this
 unfold qb8
 exact Ev.bind hL1 (Ev.bind hL3 .done)
def snkQ (d:qd) (k:Int) (i:Nat):Bool:=((gt (places d) i).net==k)&&!(gt (places d) i).drives
def sinksL (d:qd) (k:Int) (j:Nat):List Int:=((List.range j).filter (snkQ d k)).map fun (i:Nat)=>(i:Int)
def snkN (d:qd) (k:Int):Nat:=cntP (snkQ d k) (places d).length
theorem qi3 {d:qd} {k:Int} {j:Nat}:sinksL d k (j+1)=sinksL d k j++(bif snkQ d k j then [(j:Int)] else []):=by
 unfold sinksL
 rw [List.range_succ,List.filter_append,jP]
 congr 1
 cases h:snkQ d k j<;>simp [h]
theorem qit {d:qd} {k:Int} {j:Nat}:(sinksL d k j).length=cntP (snkQ d k) j:=by
 induction j with
 | zero=>rfl
 | succ j ih =>
  rw [qi3,je,ih]
  show _=cntP (snkQ d k) j+_
  congr 1
  cases snkQ d k j<;>rfl
theorem qoX {α β:Type} [Inhabited α] [Inhabited β] {xs:List α} {g:α→β} {j:Nat} (h:j<xs.length):gt (xs.map g) j=g (gt xs j):=by
 rw [qeZ (by simpa using h),qeZ h];simp
theorem qmR {d:qd} {k:Int} (h:smallD d):Ev (fun n=>qf1 n d k) (sinksL d k (places d).length):=by
 have hl:=qa1 h
 have hL:Ev (fun n=>qch k ((places d).map toSp) n ([]:List Int) 0) (sinksL d k (places d).length,((places d).length:Int)):=by
  refine loopF (Lf:=qch k ((places d).map toSp)) (S:=fun j=>sinksL d k j) (len:=(places d).length) (fun n=>?_) (fun j hj X hX=>?_)
  ·simp only [qch,jv,qk (jb _),cond_false]
  ·have hj':j<((places d).map toSp).length:=by simpa using hj
   have hc:(sinksL d k j).length+[(j:Int)].length≤2147483648:=by
    rw [qit]
    have:cntP (snkQ d k) j≤j:=qfA
    simp;omega
   simp only [qch,qj hj',cond_true,qA hj',qoX hj,ja,wS j]
   rw [show ∀ p:Tplace,(toSp p).net=p.net from fun _=>rfl,show ∀ p:Tplace,(toSp p).drives=p.drives from fun _=>rfl]
   refine Ev.bind (b:=snkQ d k j) (Ev.andP fun _=>.done) ?_
   rw [qi3] at hX
   cases hq:snkQ d k j
   ·rw [hq] at hX
    simp only [cond_false,List.append_nil] at hX ⊢
    exact hX
   ·rw [hq] at hX
    simp only [cond_true,qcV hc,ja] at hX ⊢
    exact hX
 unfold qf1
 exact Ev.bind (qhD h) (Ev.bind hL .done)
theorem qlF {l:qp} {d:qd} (h:designB l d=true) {i:Nat} (hi:i<(places d).length):0≤(gt (places d) i).net∧(gt (places d) i).net<d.Am.length:=by
 unfold designB at h
 simp only [jc] at h
 obtain ⟨_,hI,hP,_⟩:=h
 rw [qhS,qah] at hI hP
 have hm:gt (places d) i ∈ places d:=by rw [qeZ hi];exact jo hi
 generalize gt (places d) i=p at hm
 unfold places at hm
 rcases List.mem_append.1 hm with hm|hm
 ·unfold plI at hm
  obtain ⟨i,hi,hm⟩:=List.mem_flatMap.1 hm
  unfold plX at hm
  obtain ⟨k,hk,rfl⟩:=List.mem_map.1 hm
  have:=hI i (List.mem_range.1 hi)
  unfold instB at this
  simp only [jc] at this
  have h3:=this.2.2
  rw [qgs (d:=0),qah] at h3
  have h4:=h3 k (List.mem_range.1 hk)
  unfold netB at h4
  rw [qa7] at h4
  show 0≤at0 _ _∧at0 _ _<_
  unfold at0
  omega
 ·unfold plP at hm
  obtain ⟨i,hi,rfl⟩:=List.mem_map.1 hm
  have:=hP i (List.mem_range.1 hi)
  unfold portB netB at this
  simp only [jc,qa7] at this
  show 0≤(gt d.Aj i).Bx∧(gt d.Aj i).Bx<_
  omega
def blockB (b:qf):Bool:=(designB b.Av b.Ab&&((b.Ac.length:Int)==(b.Ab.Am.length:Int)))&&allN (fun j=>wireB (gt b.Ac j) (snkN b.Ab (j:Int))) b.Ac.length
theorem qtE {b:qf} (h:qlB b):Ev (fun n=>qhQ n b) (blockB b):=by
 have hwl:=h.Ac.len
 unfold qhQ blockB
 refine Ev.guardB (Ev.or (qtj h.Av h.Ab) fun _=>.done) fun hb=>?_
 rw [jc,beq_iff_eq] at hb
 obtain ⟨hd,hw⟩:=hb
 have hs:=qW hd
 have hl:=qa1 hs
 have hn:=hs.nn
 rw [qm4 (m:=b.Ac.length) (by omega)]
 simp only [ja]
 have hL1:Ev (fun n=>qcP (places b.Ab) n (vecC (fun _=>0) b.Ac.length) 0) (vecC (fun k=>snkN b.Ab (k:Int)) b.Ac.length,((places b.Ab).length:Int)):=by
  refine loopF (Lf:=qcP (places b.Ab)) (S:=fun j=>vecC (fun k=>cntP (snkQ b.Ab (k:Int)) j) b.Ac.length) (len:=(places b.Ab).length) (fun n=>?_) (fun j hj X hX=>?_)
  ·simp only [qcP,qk (jb _),cond_false];rfl
  ·simp only [qcP,qj hj,cond_true,qA hj,ja,wS j]
   obtain ⟨n0,n1⟩:=qlF hd hj
   cases h1:(gt (places b.Ab) j).drives
   ·have hc:cntP (snkQ b.Ab (((gt (places b.Ab) j).net.toNat:Nat):Int)) j≤j:=qfA
    obtain ⟨e1,e2⟩:=qlA (c:=fun k=>cntP (snkQ b.Ab (k:Int)) j) (c':=fun k=>cntP (snkQ b.Ab (k:Int)) (j+1)) (x:=(gt (places b.Ab) j).net) (m:=b.Ac.length) n0 (by omega) (by show cntP _ _<_;omega) (fun k _=>by
     show cntP _ j+(bif snkQ b.Ab (k:Int) j then 1 else 0)=_
     unfold snkQ
     rw [h1,Bool.not_false,Bool.and_true])
    simp only [Bool.not_false,cond_true,ja,e1,e2]
    exact hX
   ·have:vecC (fun k=>cntP (snkQ b.Ab (k:Int)) (j+1)) b.Ac.length=vecC (fun k=>cntP (snkQ b.Ab (k:Int)) j) b.Ac.length:=by
     refine qj2 (fun k _=>?_)
     show cntP _ j+(bif snkQ b.Ab (k:Int) j then 1 else 0)=_
     unfold snkQ
     rw [h1,jW,Bool.and_false];rfl
    rw [this] at hX
    exact hX
 have hL2:Ev (fun n=>qey b (vecC (fun k=>snkN b.Ab (k:Int)) b.Ac.length) n 0) (bif allN (fun j=>wireB (gt b.Ac j) (snkN b.Ab (j:Int))) b.Ac.length then .nxt (b.Ac.length:Int) else .ret false):=by
  refine qeb ?_ (fun j hj X hX=>Ev.succ ?_)
  ·exact Ev.succ (by simp only [qey,qk (jb _),cond_false];exact .done)
  ·simp only [qey,qj hj,cond_true,qA hj,qj1 hj,ja,wS j]
   exact Ev.chk1 (qu4 (qmt h.Ac hj)) fun _=>hX
 refine Ev.bind (qna hs) (Ev.bind hL1 (Ev.bind hL2 ?_))
 cases allN (fun j=>wireB (gt b.Ac j) (snkN b.Ab (j:Int))) b.Ac.length<;>exact .done
theorem qpd {b:qf} (h:qlB b):Ev (fun n=>qgK n b) (blockB b):=by
 have hwl:=h.Ac.len
 unfold qgK blockB
 refine Ev.guardB (Ev.or (qrP h.Av h.Ab) fun _=>.done) fun hb=>?_
 rw [jc] at hb
 have hs:=qW hb.1
 have hL:Ev (fun n=>qet b n 0) (bif allN (fun j=>wireB (gt b.Ac j) (snkN b.Ab (j:Int))) b.Ac.length then .nxt (b.Ac.length:Int) else .ret false):=by
  refine qeb ?_ (fun j hj X hX=>Ev.succ ?_)
  ·exact Ev.succ (by simp only [qet,qk (jb _),cond_false];exact .done)
  ·simp only [qet,qj hj,cond_true,qA hj,ja,wS j]
   refine Ev.bind (qmR hs) ?_
   rw [qit]
   exact Ev.chk1 (que (qmt h.Ac hj)) fun _=>hX
 refine Ev.bind hL ?_
 cases allN (fun j=>wireB (gt b.Ac j) (snkN b.Ab (j:Int))) b.Ac.length<;>exact .done
end Go.Fw


namespace Go.Fw
open Go
set_option maxRecDepth 100000
def off (d:qd) (i:Nat):Nat:=(plI d i).length
def place1 (d:qd) (i k:Nat):Tplace:=⟨(i:Int),(k:Int),at0 (gt d.Aa i).Am k,decide (k+1=(gt d.Aa i).Am.length)⟩
def place2 (d:qd) (i:Nat):Tplace:=⟨-1,(i:Int),(gt d.Aj i).Bx,(gt d.Aj i).Bv==1⟩
theorem qkq {d:qd} {i:Nat}:off d (i+1)=off d i+(gt d.Aa i).Am.length:=by
 unfold off;rw [qmE,je,qpR]
theorem qtp {d:qd} {i j:Nat} (h:i≤j):off d i≤off d j:=by
 induction j with
 | zero =>
  obtain rfl:i=0:=by omega
  exact jb _
 | succ j ih =>
  rcases Nat.lt_or_eq_of_le h with h|rfl
  ·rw [qkq];have:=ih (by omega);omega
  ·exact jb _
theorem qgA {d:qd}:(places d).length=off d d.Aa.length+d.Aj.length:=by
 unfold places off;rw [je,qpM]
theorem qyi {d:qd} {n i k:Nat} (hi:i<n) (hk:k<(gt d.Aa i).Am.length):off d i+k<off d n∧gt (plI d n) (off d i+k)=place1 d i k:=by
 induction n with
 | zero=>omega
 | succ n ih =>
  rw [qmE,qlz]
  rcases Nat.lt_succ_iff_lt_or_eq.1 hi with h|rfl
  ·obtain ⟨h1,h2⟩:=ih h
   refine ⟨by rw [qkq];omega,?_⟩
   rw [if_pos (show off d i+k<(plI d n).length from h1),h2]
  ·refine ⟨by rw [qkq];omega,?_⟩
   rw [if_neg (by unfold off;omega),show off d i+k-(plI d i).length=k by unfold off;omega]
   exact qqx hk
theorem qjX {d:qd} {i k:Nat} (hi:i<d.Aa.length) (hk:k<(gt d.Aa i).Am.length):off d i+k<(places d).length∧gt (places d) (off d i+k)=place1 d i k:=by
 obtain ⟨h1,h2⟩:=qyi hi hk
 refine ⟨by rw [qgA];omega,?_⟩
 unfold places
 rw [qlz,if_pos (show off d i+k<(plI d d.Aa.length).length from h1),h2]
theorem qrL {d:qd} {i:Nat} (hi:i<d.Aj.length):off d d.Aa.length+i<(places d).length∧gt (places d) (off d d.Aa.length+i)=place2 d i:=by
 refine ⟨by rw [qgA];omega,?_⟩
 unfold places
 rw [qlz,if_neg (by unfold off;omega),show off d d.Aa.length+i-(plI d d.Aa.length).length=i by unfold off;omega]
 exact qqx hi
theorem qvc {d:qd} {n j:Nat} (hj:j<off d n):∃ i k,i<n∧k<(gt d.Aa i).Am.length∧j=off d i+k:=by
 induction n with
 | zero=>exact absurd hj (Nat.not_lt_zero _)
 | succ n ih =>
  by_cases h:j<off d n
  ·obtain ⟨i,k,h1,h2,h3⟩:=ih h
   exact ⟨i,k,by omega,h2,h3⟩
  ·rw [qkq] at hj
   exact ⟨n,j-off d n,by omega,by omega,by omega⟩
theorem qkG {d:qd} {j:Nat} (hj:j<(places d).length) :
  (∃ i k,i<d.Aa.length∧k<(gt d.Aa i).Am.length∧j=off d i+k∧gt (places d) j=place1 d i k) ∨
  (∃ i,i<d.Aj.length∧j=off d d.Aa.length+i∧gt (places d) j=place2 d i):=by
 rw [qgA] at hj
 by_cases h:j<off d d.Aa.length
 ·obtain ⟨i,k,h1,h2,rfl⟩:=qvc h
  exact .inl ⟨i,k,h1,h2,rfl,(qjX h1 h2).2⟩
 ·refine .inr ⟨j-off d d.Aa.length,by omega,by omega,?_⟩
  have:=(qrL (d:=d) (i:=j-off d d.Aa.length) (by omega)).2
  rwa [show off d d.Aa.length+(j-off d d.Aa.length)=j by omega] at this
def drvQ (d:qd) (k:Int) (j:Nat):Bool:=((gt (places d) j).net==k)&&(gt (places d) j).drives
theorem qs6 {q:Nat→Bool} {m n:Nat}:cntP q (m+n)=cntP q m+cntP (fun j=>q (m+j)) n:=by
 induction n with
 | zero=>rfl
 | succ n ih =>
  show cntP q (m+n)+(bif q (m+n) then 1 else 0)=cntP q m+(cntP (fun j=>q (m+j)) n+(bif q (m+n) then 1 else 0))
  rw [ih];omega
theorem qvd {q:Nat→Bool} {n:Nat} {b:Bool} (h:1≤n) (h1:∀ j,j+1<n→q j=false) (h2:q (n-1)=b):cntP q n=bif b then 1 else 0:=by
 obtain ⟨m,rfl⟩:∃ m,n=m+1:=⟨n-1,by omega⟩
 show cntP q m+(bif q m then 1 else 0)=_
 rw [qne.2 (fun j hj=>h1 j (by omega)),show m=m+1-1 by omega,h2,jU]
theorem qtq {d:qd} {k:Nat} (hs:smallD d):cntP (drvQ d (k:Int)) (places d).length=drvI d k d.Aa.length+drvP d k d.Aj.length:=by
 rw [qgA,qs6]
 congr 1
 ·have:∀ n,n≤d.Aa.length→cntP (drvQ d (k:Int)) (off d n)=drvI d k n:=by
   intro n
   induction n with
   | zero=>intro _;rfl
   | succ n ih =>
    intro hn
    rw [qkq,qs6,ih (by omega),qov]
    congr 1
    have h2:=(hs.nx n (by omega)).1
    refine qvd (by omega) (fun j hj=>?_) ?_
    ·show drvQ d _ (off d n+j)=false
     unfold drvQ
     rw [(qjX (by omega) (by omega)).2]
     unfold place1
     simp;omega
    ·show drvQ d _ (off d n+_)=_
     unfold drvQ
     rw [(qjX (by omega) (by omega)).2]
     unfold place1 lastN
     simp;omega
  exact this _ (jb _)
 ·refine qqi (fun j hj=>?_)
  show drvQ d _ (off d _+j)=_
  unfold drvQ
  rw [(qrL hj).2]
  unfold place2
  exact Bool.and_comm _ _
theorem quk {l:qp} {d:qd} (h:designB l d=true) {k:Nat} (hk:k<d.Am.length):cntP (drvQ d (k:Int)) (places d).length=1:=by
 rw [qtq (qW h)]
 unfold designB drvB at h
 simp only [jc] at h
 have:=qah.1 h.2.2.2 k hk
 rw [beq_iff_eq] at this
 omega
theorem qsB {l:qp} {d:qd} (h:designB l d=true) {i j:Nat} (hi:i<(places d).length) (hj:j<(places d).length) (he:(gt (places d) i).net=(gt (places d) j).net) (h1:(gt (places d) i).drives=true) (h2:(gt (places d) j).drives=true):i=j:=by
 obtain ⟨n0,n1⟩:=qlF h hi
 have e:=qea n0
 have:=quk h (k:=(gt (places d) i).net.toNat) (by omega)
 refine qsy (Nat.le_of_eq this) hi hj ?_ ?_
 ·unfold drvQ;rw [←e,h1];simp
 ·unfold drvQ;rw [←e,h2,he];simp
theorem qyd {l:qp} {d:qd} (h:designB l d=true) {k:Int} (h0:0≤k) (h1:k<d.Am.length):∃ j,j<(places d).length∧(gt (places d) j).net=k∧(gt (places d) j).drives=true:=by
 have e:=qea h0
 have:=quk h (k:=k.toNat) (by omega)
 have hp:decide (0<cntP (drvQ d ((k.toNat:Nat):Int)) (places d).length)=true:=by rw [this];rfl
 rw [qsW,jE,ql3] at hp
 obtain ⟨j,hj,hq⟩:=hp
 rw [Bool.not_eq_false',←e] at hq
 unfold drvQ at hq
 simp only [jc,beq_iff_eq] at hq
 exact ⟨j,hj,hq.1,hq.2⟩
def cellAt (b:qf) (i:Int):qB:=gt b.Av.Aq (gt b.Ab.Aa i.toNat).Bs.toNat
theorem qgQ {l:qp} {d:qd} (h:designB l d=true) {i:Nat} (hi:i<d.Aa.length) :
  (0≤(gt d.Aa i).Bs∧(gt d.Aa i).Bs<l.Aq.length)∧(gt d.Aa i).Am.length=(gt l.Aq (gt d.Aa i).Bs.toNat).Be.length∧cellB (gt l.Aq (gt d.Aa i).Bs.toNat)=true:=by
 unfold designB libB at h
 simp only [jc] at h
 obtain ⟨⟨⟨hc,_⟩,_⟩,hI,_⟩:=h
 rw [qhS,qah] at hI hc
 have:=hI i hi
 unfold instB at this
 simp only [jc,qa7,beq_iff_eq] at this
 exact ⟨⟨this.1.1,by omega⟩,by omega,hc _ (by omega)⟩
theorem qmU {c:qB} (h:cellB c=true) {j:Nat} (hj:j<c.Au.length):(1≤(gt c.Au j).Bf∧(gt c.Au j).Bf≤5)∧(0≤(gt c.Au j).Bk∧(gt c.Au j).Bk<(c.Be.length:Int)-1)∧(0≤(gt c.Au j).To∧(gt c.Au j).To≤(c.Be.length:Int)-1)∧arcS c.Be (gt c.Au j)=true:=by
 unfold cellB at h
 simp only [jc] at h
 obtain ⟨_,hp,⟨ha,_⟩,_,_,hk⟩:=h
 have:=qah.1 ha j hj
 rw [jc,qv5 hp (qru hk)] at this
 have h1:=this.1
 refine ⟨qrx h1,?_⟩
 have h2:=h1
 unfold arcS at h2
 simp only [jc,qa7] at h2
 refine ⟨⟨h2.1.1.1,by omega⟩,h2.1.2,h1⟩
theorem qnM {c:qB} (h:cellB c=true):c.Au.length≤8:=by
 unfold cellB at h
 simp only [jc,decide_eq_true_eq] at h
 exact h.2.2.1.2
theorem qar {b:qf} (h:blockB b=true):designB b.Av b.Ab=true:=by
 unfold blockB at h;simp only [jc] at h;exact h.1.1
end Go.Fw
