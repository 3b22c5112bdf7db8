/- By a program of mine (gen.py): for each function a plain function and the proof that the code computes it. -/
import Derived.Test.YtflinekphmgbeaaGreatDoorA2
import Derived.Test.YtflinekphmgbeaaGreatDoorFw32
open Option renaming bind_some → ja
open Nat renaming le_refl → jb, mul_le_mul_right → jm, le_of_ble_eq_true → jq, lt_of_lt_of_le → js, succ_mul → jF, zero_add → jU
open Bool renaming and_eq_true → jc, eq_iff_iff → jh, true_and → jw, not_eq_true' → jE, not_true → jW
open Go.Result renaming andThen_ok → jd
open List renaming length_append → je, getElem?_eq_getElem → jf, mem_cons_of_mem → jk, length_singleton → jn, getElem_mem → jo, append_assoc → jp, getElem?_append_left → jr, mem_cons_self → jt, take_succ_eq_append_getElem → ju, length_map → jv, getElem?_take → jx, getElem?_append_right → jy, getD_eq_getElem?_getD → jz, getElem?_toArray → jA, take_length → jB, eq_nil_of_length_eq_zero → jC, drop_eq_getElem_cons → jD, not_mem_nil → jH, length_replicate → jI, size_toArray → jJ, all_eq_true → jM, length_take → jN, getElem_of_mem → jO, map_append → jP, mem_cons → jR, ext_getElem → jT
open Go.Sem renaming run_bind → jg, run_pure → ji
open Int renaming toNat_natCast → jj, tdiv_eq_ediv_of_nonneg → jG, mul_nonneg → jL, mul_assoc → jQ, mul_le_mul → jS, le_refl → jV
open Array renaming getElem?_append_left → jK

namespace Go.Fw
open Go Go.Proofs
open Go.RowKit (Below)
set_option maxRecDepth 100000
set_option maxHeartbeats 1600000
variable {n:Nat} {w:World} {cs1 cs2 cs3 cs4 cs5 cs6 cs7 cs8 cs9:List Value}
def qde (a_0:qB) (i1:Int) (y1:qP):Nat→Int→Option (Flow Bool Int)
 | 0,_=>none
 | n+1,i2 =>
  bif decide (i2<i1) then
   (idx a_0.Au i2).bind fun y2 =>
   bif (y2.Bf==y1.Bf) then
    (idx a_0.Au i2).bind fun y3 =>
    bif (y3.Bk==y1.Bk) then
     (idx a_0.Au i2).bind fun y4 =>
     bif (y4.To==y1.To) then some (.ret false) else
     qde a_0 i1 y1 n (W64 (i2+1))
    else
     qde a_0 i1 y1 n (W64 (i2+1))
   else
    qde a_0 i1 y1 n (W64 (i2+1))
  else
   some (.nxt i2)
def qfi (a_0:qB):Nat→Int→Option (Flow Bool Int)
 | 0,_=>none
 | n+1,i3 =>
  bif decide (i3<(a_0.Br.length:Int)) then
   (idx a_0.Br i3).bind fun y5 =>
   (qas n y5 0 1).bind fun r6 =>
   bif (!r6) then some (.ret false) else
   qfi a_0 n (W64 (i3+1))
  else
   some (.nxt i3)
def qe9 (a_0:qB):Nat→Int→Option (Flow Bool Int)
 | 0,_=>none
 | n+1,i1 =>
  bif decide (i1<(a_0.Au.length:Int)) then
   (idx a_0.Au i1).bind fun y1 =>
   (qkL n a_0 y1).bind fun r4 =>
   bif (!r4) then some (.ret false) else
   (qde a_0 i1 y1 n 0).bind fun o=>match o with
   | .ret r=>some (.ret r)
   | .nxt _ =>
    qe9 a_0 n (W64 (i1+1))
  else
   some (.nxt i1)
def qkR (n:Nat) (a_0:qB):Option Bool :=
 (qjC n a_0).bind fun o=>match o with
  | (r2,r3) =>
   (
    bif (!r3) then some true else
    (qfI n a_0.Bb).bind fun r7 =>
    bif (!r7) then some true else
    bif decide ((a_0.Au.length:Int) > 8) then some true else
    (qas n a_0.Ca 0 100000).bind fun r8 =>
    bif (!r8) then some true else
    (qas n a_0.Bu 0 100000).bind fun r9 =>
    some (!r9)).bind fun b1 =>
   bif b1 then some false else
   (qe9 a_0 n 0).bind fun o=>match o with
   | .ret r=>some r
   | .nxt _ =>
    (qiT n a_0).bind fun r5 =>
    bif (a_0.Bf==1) then
     (qfi a_0 n 0).bind fun o=>match o with
     | .ret r=>some r
     | .nxt _ =>
      bif (r2==0) then
       (shlS 1 (IntKind.wrap .u64 (W64 ((a_0.Be.length:Int)-1)))).bind fun y6 =>
       some ((a_0.Br.length:Int)==y6)
      else
       some false
    else
     bif (a_0.Bf==2) then
      bif (r2==1) then
       (idx r5 1).bind fun y7 =>
       bif (y7==0) then
        (idx r5 2).bind fun y8 =>
        (idx r5 3).bind fun y9 =>
        bif (!((decide (y8 > 0))==(decide (y9 > 0)))) then some ((a_0.Br.length:Int)==0) else
        some false
       else
        some false
      else
       some false
     else
      bif (a_0.Bf==3) then
       bif (r2==1) then
        (idx r5 1).bind fun y10 =>
        bif decide (y10 > 0) then
         (idx r5 2).bind fun y11 =>
         bif decide (y11 > 0) then
          (idx r5 3).bind fun y12 =>
          bif (y12==0) then some ((a_0.Br.length:Int)==0) else
          some false
         else
          some false
        else
         some false
       else
        some false
      else
       some false
theorem qqD {a_0:qB} (ha1:GoT.R w (old w) a_0 cs1) {r:Bool} (hF:qkR n a_0=some r):RetV Tryz.prog 237 [GoT.v qB cs1] w r:=by
 obtain ⟨p1,k1,p2,k2,p3,k3,rfl,s1,s2,s3⟩:=qac ha1
 refine zV 182 Tryz.func237 rfl fun h=>zSR (qv h rfl rfl fun w1 bb1 h=>X1 5 0 h rfl ?_)
 obtain ⟨r1,hr1,hF⟩:=qc hF
 obtain ⟨r2,r3⟩:=r1
 refine qaD (r2,r3) h (cB 260 rfl) (qpN (h.old ha1) hr1) rfl rfl rfl rfl fun w2 S1 us1 hv1 hr2=>?_
 obtain ⟨S2,us2,rfl,hv2,hr3⟩:=hv1.consI hr2
 obtain ⟨rfl,h⟩:=hv2.lastB hr3
 refine X0 8 rfl ?_
 obtain ⟨KF1,hKF1,o4,hF,hK4⟩:=bindE hF
 refine qbl (fun e w'=>∃ (b1:Bool),KF1 b1=some r∧e=[(1,.pointer (some ⟨bb1,0,none⟩)),(3,.int .i64 r2),(40,.bool b1)]∧SH w w' [Ch.box bb1 (qdM a_0 p1 p2 p3 k1 k2 k3) 168]) ?_ ?_
 ·refine X0 4 rfl (qi (t:=17) hF rfl ?_ ?_)<;>intro hF
  ·refine X0 24 rfl ?_
   obtain rfl:=qb hF
   exact rG ⟨_,hK4,rfl,h⟩ rfl
  refine X1 5 0 h rfl (zcB h hF qht rfl fun r7 w18 h hF=>X0 4 rfl (qi (t:=23) hF rfl ?_ ?_))<;>intro hF
  ·refine X0 18 rfl ?_
   obtain rfl:=qb hF
   exact rG ⟨_,hK4,rfl,h⟩ rfl
  refine X1 10 0 h rfl (qi (t:=29) hF rfl ?_ ?_)<;>intro hF
  ·refine X0 12 rfl ?_
   obtain rfl:=qb hF
   exact rG ⟨_,hK4,rfl,h⟩ rfl
  refine X1 5 0 h rfl (zcB h hF qad rfl fun r8 w19 h hF=>X0 4 rfl (qi (t:=35) hF rfl ?_ ?_))<;>intro hF
  ·refine X0 6 rfl ?_
   obtain rfl:=qb hF
   exact rG ⟨_,hK4,rfl,h⟩ rfl
  refine X1 5 0 h rfl (zcB h hF qad rfl fun r9 w20 h hF=>X0 4 rfl ?_)
  obtain rfl:=qb hF
  exact rG ⟨_,hK4,rfl,h⟩ rfl
 rintro e4 w21 ⟨b1,hF,rfl,h⟩
 subst hKF1
 refine qh rfl hF ?_ ?_<;>intro hF
 ·exact X0 4 rfl (rb h hF rfl)
 refine X0 6 rfl ?_
 obtain ⟨o1,hF,hK1⟩:=qc hF
 refine qm (rL (fun m e w'=>∃ (i1:Int),qe9 a_0 m i1=some o1∧e=[(1,.pointer (some ⟨bb1,0,none⟩)),(3,.int .i64 r2),(5,.int .i64 i1)]∧SH w w' [Ch.box bb1 (qdM a_0 p1 p2 p3 k1 k2 k3) 168]) n ⟨_,hF,rfl,h⟩ rfl ?_)
 rintro m1 e1 w3 ⟨i1,hF,rfl,h⟩
 rcases m1 with _|m1
 ·cases hF
 refine X1 9 0 h rfl (qh rfl hF ?_ ?_)<;>intro hF
 ·refine X1 8 0 h rfl ?_
  obtain ⟨y1,hy1,hF,he1,b2,_,q1,cs2,hp1,hq1,hr5,hc3⟩:=s2.ix hF
  obtain ⟨p4,k4,p5,k5,rfl,s4,s5⟩:=qaf hr5
  refine zxe hp1 hq1 he1 rfl (zc 0 (hc3.below h.below) rfl (qj qa h rfl rfl rfl fun w4 bb2 h=>zs 0 h rfl fun w5 h=>X2 6 1 0 h rfl (zcB h hF (qqj (h.old ha1) (qfm y1 (h.oldS s4) (h.oldS s5))) rfl fun r4 w6 h hF=>X0 2 rfl (qh rfl hF ?_ ?_))))<;>intro hF
  ·refine X0 4 rfl ?_
   obtain rfl:=qb hF;replace hF:=hK1
   exact rb h hF rfl
  refine X0 5 rfl ?_
  obtain ⟨o2,hF,hK2⟩:=qc hF
  refine qm (rL (fun m e w'=>∃ (i2:Int),qde a_0 i1 y1 m i2=some o2∧e=[(1,.pointer (some ⟨bb1,0,none⟩)),(3,.int .i64 r2),(5,.int .i64 i1),(6,.pointer (some ⟨bb2,0,none⟩)),(7,.int .i64 i2)]∧SH w w' [Ch.box bb2 (qgq y1 p4 p5 k4 k5) 173,Ch.box bb1 (qdM a_0 p1 p2 p3 k1 k2 k3) 168]) m1 ⟨_,hF,rfl,h⟩ rfl ?_)
  rintro m2 e2 w7 ⟨i2,hF,rfl,h⟩
  rcases m2 with _|m2
  ·cases hF
  refine X0 7 rfl (qh rfl hF ?_ ?_)<;>intro hF
  ·refine X0 4 rfl (rD (Y1 2 1 h rfl ?_))
   refine zd1 rfl ?_
   obtain ⟨y2,hy2,hF,he2,b3,_,q2,cs3,hp2,hq2,hr7,hc6⟩:=s2.ix hF
   obtain ⟨p6,k6,p7,k7,rfl,s6,s7⟩:=qaf hr7
   refine zdxe hp2 hq2 he2 rfl (zd1 rfl (zdc 0 (hc6.below h.below) rfl (Y1 2 0 h rfl ?_)))
   refine zd2 rfl (qaJ (t:=71) hF rfl ?_ ?_)<;>intro hF
   ·refine Y1 4 1 h rfl ?_
    refine Y0 3 rfl ?_
    obtain ⟨y3,hy3,hF,he3,b4,_,q3,cs4,hp3,hq3,hr8,hc7⟩:=s2.ix hF
    obtain ⟨p8,k8,p9,k9,rfl,s8,s9⟩:=qaf hr8
    refine zdxe hp3 hq3 he3 rfl (Y0 3 rfl (zdc 1 (hc7.below h.below) rfl (Y1 4 0 h rfl ?_)))
    refine Y0 4 rfl (qaJ (t:=82) hF rfl ?_ ?_)<;>intro hF
    ·refine Y1 4 1 h rfl ?_
     refine Y0 3 rfl ?_
     obtain ⟨y4,hy4,hF,he4,b5,_,q4,cs5,hp4,hq4,hr9,hc8⟩:=s2.ix hF
     obtain ⟨p10,k10,p11,k11,rfl,s10,s11⟩:=qaf hr9
     refine zdxe hp4 hq4 he4 rfl (Y0 3 rfl (zdc 2 (hc8.below h.below) rfl (Y1 4 0 h rfl ?_)))
     refine Y0 3 rfl (dN h fun w8 h=>qh rfl hF ?_ ?_)<;>intro hF
     ·refine X0 4 rfl ?_
      obtain rfl:=qb hF;replace hF:=hK2
      obtain rfl:=qb hF;replace hF:=hK1
      exact rb h hF rfl
     exact X0 7 rfl (rK ⟨_,hF,rfl,h⟩ rfl)
    exact Y0 10 rfl (dN h fun w9 h=>qbV rfl rfl (X0 7 rfl (rK ⟨_,hF,rfl,h⟩ rfl)))
   exact Y0 21 rfl (dN h fun w10 h=>qbV rfl rfl (X0 7 rfl (rK ⟨_,hF,rfl,h⟩ rfl)))
  refine qu rfl ?_
  obtain rfl:=qb hF;replace hF:=hK2
  refine X0 6 rfl ?_
  replace h:=h.pick [1] rfl
  exact rK ⟨_,hF,rfl,h⟩ rfl
 refine qu rfl ?_
 obtain rfl:=qb hF;replace hF:=hK1
 refine X1 3 0 h rfl (zcL h hF (qoM (h.old ha1)) rfl fun r5 w11 S4 p12 k12 h hF=>X1 14 1 h rfl (qh rfl hF ?_ ?_))<;>intro hF
 ·refine X0 5 rfl ?_
  obtain ⟨o3,hF,hK3⟩:=qc hF
  refine qm ?_
  replace h:=h.pick [1] rfl
  refine rL (fun m e w'=>∃ (i3:Int),qfi a_0 m i3=some o3∧e=[(1,.pointer (some ⟨bb1,0,none⟩)),(3,.int .i64 r2),(9,.int .i64 i3)]∧SH w w' [Ch.box bb1 (qdM a_0 p1 p2 p3 k1 k2 k3) 168]) n ⟨_,hF,rfl,h⟩ rfl ?_
  rintro m3 e3 w12 ⟨i3,hF,rfl,h⟩
  rcases m3 with _|m3
  ·cases hF
  refine X1 9 0 h rfl (qh rfl hF ?_ ?_)<;>intro hF
  ·refine X1 8 0 h rfl ?_
   obtain ⟨y5,hy5,hF,he5,b6,_,q5,cs6,hp5,hq5,rfl,hc12⟩:=s3.ix hF
   refine zxe hp5 hq5 he5 rfl (zc 0 (hc12.below h.below) rfl (zcB h hF qad rfl fun r6 w13 h hF=>X0 2 rfl (qh rfl hF ?_ ?_)))<;>intro hF
   ·refine X0 4 rfl ?_
    obtain rfl:=qb hF;replace hF:=hK3
    exact rb h hF rfl
   exact X0 7 rfl (rK ⟨_,hF,rfl,h⟩ rfl)
  refine qu rfl ?_
  obtain rfl:=qb hF;replace hF:=hK3
  refine X0 5 rfl (qi (t:=115) hF rfl ?_ ?_)<;>intro hF
  ·refine X2 17 0 0 h rfl ?_
   obtain ⟨y6,hx1,hF⟩:=qc hF
   obtain ⟨g1,hx1⟩:=qrA hx1
   refine r_v (qxQ g1 rfl rfl) rfl ?_
   rw [hx1]
   exact X0 5 rfl (rb h hF rfl)
  exact X0 13 rfl (rb h hF rfl)
 refine X0 5 rfl (qh rfl hF ?_ ?_)<;>intro hF
 ·refine qcR (rD (zd3 rfl (qaJ (t:=131) hF rfl ?_ ?_)))<;>intro hF
  ·refine Y0 3 rfl ?_
   obtain ⟨y7,hy6,hF,he6,b7,_,q6,cs7,hp6,hq6,rfl,hc15⟩:=(h.sl 0 rfl).1.ix hF
   refine zdx hp6 hq6 ⟨he6.1,qV he6.2.1 (h.sl 0 rfl).2⟩ rfl (Y0 1 rfl (zdc 0 hc15 rfl (Y0 4 rfl (qaJ (t:=137) hF rfl ?_ ?_))))<;>intro hF
   ·refine Y0 3 rfl ?_
    obtain ⟨y8,hy7,hF,he7,b8,_,q7,cs8,hp7,hq7,rfl,hc16⟩:=(h.sl 0 rfl).1.ix hF
    refine zdx hp7 hq7 ⟨he7.1,qV he7.2.1 (h.sl 0 rfl).2⟩ rfl (Y0 1 rfl (zdc 0 hc16 rfl (Y0 5 rfl ?_)))
    obtain ⟨y9,hy8,hF,he8,b9,_,q8,cs9,hp8,hq8,rfl,hc17⟩:=(h.sl 0 rfl).1.ix hF
    refine zdx hp8 hq8 ⟨he8.1,qV he8.2.1 (h.sl 0 rfl).2⟩ rfl (Y0 1 rfl (zdc 0 hc17 rfl (Y0 6 rfl (qaJ (t:=148) hF rfl ?_ ?_))))<;>intro hF
    ·refine Y1 4 1 h rfl ?_
     exact Y0 6 rfl (dN h fun w14 h=>rb h hF rfl)
    exact Y0 6 rfl (dN h fun w15 h=>rb h hF rfl)
   exact Y0 17 rfl (dN h fun w16 h=>rb h hF rfl)
  exact Y0 23 rfl (dN h fun w17 h=>rb h hF rfl)
 refine X0 5 rfl (qh rfl hF ?_ ?_)<;>intro hF
 ·refine X0 5 rfl (qi (t:=158) hF rfl ?_ ?_)<;>intro hF
  ·refine X0 3 rfl ?_
   obtain ⟨y10,hy9,hF,he9,b10,_,q9,cs10,hp9,hq9,rfl,hc19⟩:=(h.sl 0 rfl).1.ix hF
   refine zx hp9 hq9 ⟨he9.1,qV he9.2.1 (h.sl 0 rfl).2⟩ rfl (X0 1 rfl (zc 0 hc19 rfl (X0 4 rfl (qi (t:=164) hF rfl ?_ ?_))))<;>intro hF
   ·refine X0 3 rfl ?_
    obtain ⟨y11,hy10,hF,he10,b11,_,q10,cs11,hp10,hq10,rfl,hc20⟩:=(h.sl 0 rfl).1.ix hF
    refine zx hp10 hq10 ⟨he10.1,qV he10.2.1 (h.sl 0 rfl).2⟩ rfl (X0 1 rfl (zc 0 hc20 rfl (X0 4 rfl (qi (t:=170) hF rfl ?_ ?_))))<;>intro hF
    ·refine X0 3 rfl ?_
     obtain ⟨y12,hy11,hF,he11,b12,_,q11,cs12,hp11,hq11,rfl,hc21⟩:=(h.sl 0 rfl).1.ix hF
     refine zx hp11 hq11 ⟨he11.1,qV he11.2.1 (h.sl 0 rfl).2⟩ rfl (X0 1 rfl (zc 0 hc21 rfl (X0 4 rfl (qi (t:=176) hF rfl ?_ ?_))))<;>intro hF
     ·exact X1 11 1 h rfl (rb h hF rfl)
     exact X0 7 rfl (rb h hF rfl)
    exact X0 13 rfl (rb h hF rfl)
   exact X0 19 rfl (rb h hF rfl)
  exact X0 25 rfl (rb h hF rfl)
 exact X0 6 rfl (rb h hF rfl)
def qds (l:qq) (i1:Int):Nat→Int→Option (Flow Bool Int)
 | 0,_=>none
 | n+1,i2 =>
  bif decide (i2<i1) then
   (idx l.Aq i2).bind fun y2 =>
   (idx l.Aq i1).bind fun y3 =>
   bif (y2.Bb.toList==y3.Bb.toList) then some (.ret false) else
   qds l i1 n (W64 (i2+1))
  else
   some (.nxt i2)
def qdq (l:qq):Nat→Int→Option (Flow Bool Int)
 | 0,_=>none
 | n+1,i1 =>
  bif decide (i1<(l.Aq.length:Int)) then
   (idx l.Aq i1).bind fun y1 =>
   (qkR n y1).bind fun r1 =>
   bif (!r1) then some (.ret false) else
   (qds l i1 n 0).bind fun o=>match o with
   | .ret r=>some (.ret r)
   | .nxt _ =>
    qdq l n (W64 (i1+1))
  else
   some (.nxt i1)
def qin (n:Nat) (l:qq):Option Bool :=
 (qdq l n 0).bind fun o=>match o with
 | .ret r=>some r
 | .nxt _ =>
  some (decide ((l.Aq.length:Int)≤8))
theorem qnX {l:qq} (ha1:GoT.R w (old w) l cs1) {r:Bool} (hF:qin n l=some r):RetV Tryz.prog 206 [GoT.v qq cs1] w r:=by
 obtain ⟨p1,k1,rfl,s1⟩:=qbA ha1
 refine zV 41 Tryz.func206 rfl fun h=>zSR (qv h rfl rfl fun w1 bb1 h=>X0 7 rfl ?_)
 obtain ⟨o1,hF,hK1⟩:=qc hF
 refine qm (rL (fun m e w'=>∃ (i1:Int),qdq l m i1=some o1∧e=[(1,.pointer (some ⟨bb1,0,none⟩)),(3,.int .i64 i1)]∧SH w w' [Ch.box bb1 [.slice p1 l.Aq.length k1] 44]) n ⟨_,hF,rfl,h⟩ rfl ?_)
 rintro m1 e1 w2 ⟨i1,hF,rfl,h⟩
 rcases m1 with _|m1
 ·cases hF
 refine X1 9 0 h rfl (qh rfl hF ?_ ?_)<;>intro hF
 ·refine X1 9 0 h rfl ?_
  obtain ⟨y1,hy1,hF,he1,b1,_,q1,cs2,hp1,hq1,hr1,hc2⟩:=s1.ix hF
  obtain ⟨p2,k2,p3,k3,p4,k4,rfl,s2,s3,s4⟩:=qac hr1
  refine zxe hp1 hq1 he1 rfl (zc 0 (hc2.below h.below) rfl (zcB h hF (qqD (qjU y1 (h.oldS s2) (h.oldS s3) (h.oldS s4))) rfl fun r1 w3 h hF=>X0 2 rfl (qh rfl hF ?_ ?_)))<;>intro hF
  ·refine X0 4 rfl ?_
   obtain rfl:=qb hF;replace hF:=hK1
   exact rb h hF rfl
  refine X0 5 rfl ?_
  obtain ⟨o2,hF,hK2⟩:=qc hF
  refine qm (rL (fun m e w'=>∃ (i2:Int),qds l i1 m i2=some o2∧e=[(1,.pointer (some ⟨bb1,0,none⟩)),(3,.int .i64 i1),(4,.int .i64 i2)]∧SH w w' [Ch.box bb1 [.slice p1 l.Aq.length k1] 44]) m1 ⟨_,hF,rfl,h⟩ rfl ?_)
  rintro m2 e2 w4 ⟨i2,hF,rfl,h⟩
  rcases m2 with _|m2
  ·cases hF
  refine X0 7 rfl (qh rfl hF ?_ ?_)<;>intro hF
  ·refine X0 4 rfl (rD (Y1 2 0 h rfl ?_))
   refine zd1 rfl ?_
   obtain ⟨y2,hy2,hF,he2,b2,_,q2,cs3,hp2,hq2,hr3,hc5⟩:=s1.ix hF
   obtain ⟨p5,k5,p6,k6,p7,k7,rfl,s5,s6,s7⟩:=qac hr3
   refine zdxe hp2 hq2 he2 rfl (zd1 rfl (zdc 0 (hc5.below h.below) rfl (Y1 2 0 h rfl ?_)))
   refine zd1 rfl ?_
   obtain ⟨y3,hy3,hF,he3,b3,_,q3,cs4,hp3,hq3,hr4,hc6⟩:=s1.ix hF
   obtain ⟨p8,k8,p9,k9,p10,k10,rfl,s8,s9,s10⟩:=qac hr4
   refine zdxe hp3 hq3 he3 rfl (zd1 rfl (zdc 0 (hc6.below h.below) rfl (zd1 rfl (dN h fun w5 h=>qh rfl hF ?_ ?_))))<;>intro hF
   ·refine X0 4 rfl ?_
    obtain rfl:=qb hF;replace hF:=hK2
    obtain rfl:=qb hF;replace hF:=hK1
    exact rb h hF rfl
   exact X0 7 rfl (rK ⟨_,hF,rfl,h⟩ rfl)
  refine qu rfl ?_
  obtain rfl:=qb hF;replace hF:=hK2
  exact X0 6 rfl (rK ⟨_,hF,rfl,h⟩ rfl)
 refine qu rfl ?_
 obtain rfl:=qb hF;replace hF:=hK1
 exact X1 8 0 h rfl (rb h hF rfl)
def qd3 (a_1:qe) (y1:qp):Nat→Int→Option (Flow Bool Int)
 | 0,_=>none
 | n+1,i2 =>
  bif decide (i2<(y1.Am.length:Int)) then
   (idx y1.Am i2).bind fun y2 =>
   (qas n y2 0 (W64 ((a_1.Am.length:Int)-1))).bind fun r1 =>
   bif (!r1) then some (.ret false) else
   qd3 a_1 y1 n (W64 (i2+1))
  else
   some (.nxt i2)
def qd1 (a_1:qe):Nat→Int→Option (Flow Bool Int)
 | 0,_=>none
 | n+1,i3 =>
  bif decide (i3<(a_1.Aj.length:Int)) then
   (idx a_1.Aj i3).bind fun y4 =>
   (qas n y4.Bv 1 2).bind fun r3 =>
   bif (!r3) then some (.ret false) else
   (idx a_1.Aj i3).bind fun y5 =>
   (qas n y5.Bx 0 (W64 ((a_1.Am.length:Int)-1))).bind fun r4 =>
   bif (!r4) then some (.ret false) else
   qd1 a_1 n (W64 (i3+1))
  else
   some (.nxt i3)
def qd2 (a_0:qq) (a_1:qe):Nat→Int→Option (Flow Bool Int)
 | 0,_=>none
 | n+1,i1 =>
  bif decide (i1<(a_1.Aa.length:Int)) then
   (idx a_1.Aa i1).bind fun y1 =>
   (
    (qas n y1.Bs 0 (W64 ((a_0.Aq.length:Int)-1))).bind fun r2 =>
    bif (!r2) then some true else
    (idx a_0.Aq y1.Bs).bind fun y3 =>
    some ((y1.Am.length:Int) != (y3.Be.length:Int))).bind fun b2 =>
   bif b2 then some (.ret false) else
   (qd3 a_1 y1 n 0).bind fun o=>match o with
   | .ret r=>some (.ret r)
   | .nxt _ =>
    qd2 a_0 a_1 n (W64 (i1+1))
  else
   some (.nxt i1)
def qiM (n:Nat) (a_0:qq) (a_1:qe):Option Bool :=
 (qd2 a_0 a_1 n 0).bind fun o=>match o with
 | .ret r=>some r
 | .nxt _ =>
  (qd1 a_1 n 0).bind fun o=>match o with
  | .ret r=>some r
  | .nxt _ =>
   some true
theorem qo1 {a_0:qq} {a_1:qe} (ha1:GoT.R w (old w) a_0 cs1) (ha2:GoT.R w (old w) a_1 cs2) {r:Bool} (hF:qiM n a_0 a_1=some r):RetV Tryz.prog 207 [GoT.v qq cs1,GoT.v qe cs2] w r:=by
 obtain ⟨p1,k1,rfl,s1⟩:=qbA ha1
 obtain ⟨p2,k2,p3,k3,p4,k4,rfl,s2,s3,s4⟩:=qau ha2
 refine zV 90 Tryz.func207 rfl fun h=>zSR (qv h rfl rfl fun w1 bb1 h=>qv h rfl rfl fun w2 bb2 h=>X1 14 0 h rfl ?_)
 obtain ⟨o1,hF,hK1⟩:=qc hF
 refine qm (rL (fun m e w'=>∃ (i1:Int),qd2 a_0 a_1 m i1=some o1∧e=[(2,.pointer (some ⟨bb1,0,none⟩)),(3,.pointer (some ⟨bb2,0,none⟩)),(5,.int .i64 (a_1.Am.length:Int)),(6,.int .i64 i1)]∧SH w w' [Ch.box bb2 (qaI a_1 p2 p3 p4 k2 k3 k4) 48,Ch.box bb1 [.slice p1 a_0.Aq.length k1] 44]) n ⟨_,hF,rfl,h⟩ rfl ?_)
 rintro m1 e1 w3 ⟨i1,hF,rfl,h⟩
 rcases m1 with _|m1
 ·cases hF
 refine X1 9 0 h rfl (qh rfl hF ?_ ?_)<;>intro hF
 ·refine X1 8 0 h rfl ?_
  obtain ⟨y1,hy1,hF,he1,b1,_,q1,cs3,hp1,hq1,hr1,hc2⟩:=s2.ix hF
  obtain ⟨p5,k5,rfl,s5⟩:=qN hr1
  refine zxe hp1 hq1 he1 rfl (zc 0 (hc2.below h.below) rfl (qj qa h rfl rfl rfl fun w4 bb3 h=>zs 0 h rfl fun w5 h=>zNSS ?_))
  obtain ⟨KF1,hKF1,o3,hF,hK3⟩:=bindE hF
  refine qbl (fun e w'=>∃ (b2:Bool),KF1 b2=some o1∧e=[(2,.pointer (some ⟨bb1,0,none⟩)),(3,.pointer (some ⟨bb2,0,none⟩)),(5,.int .i64 (a_1.Am.length:Int)),(6,.int .i64 i1),(7,.pointer (some ⟨bb3,0,none⟩)),(46,.bool b2)]∧SH w w' [Ch.box bb3 (qjj y1 p5 k5) 170,Ch.box bb2 (qaI a_1 p2 p3 p4 k2 k3 k4) 48,Ch.box bb1 [.slice p1 a_0.Aq.length k1] 44]) ?_ ?_
  ·refine rD (Y1 2 0 h rfl ?_)
   refine Y1 2 2 h rfl ?_
   refine zd2 rfl ?_
   obtain ⟨r2,hr4,hF⟩:=qc hF
   refine qbj r2 (vsB _) (cB 63 rfl) (fun _ hb=>qad  hr4) rfl rfl rfl rfl (zd2 rfl (qaJ (t:=33) hF rfl ?_ ?_))<;>intro hF
   ·refine Y0 13 rfl (dN h fun w8 h=>?_)
    obtain rfl:=qb hF
    exact rG ⟨_,hK3,rfl,h⟩ rfl
   refine Y1 4 0 h rfl ?_
   refine Y1 6 2 h rfl ?_
   refine Y1 4 0 h rfl ?_
   refine Y0 1 rfl ?_
   obtain ⟨y3,hy3,hF,he3,b4,_,q3,cs5,hp3,hq3,hr5,hc7⟩:=s1.ix hF
   obtain ⟨p6,k6,p7,k7,p8,k8,rfl,s6,s7,s8⟩:=qac hr5
   refine zdxe hp3 hq3 he3 rfl (Y0 3 rfl (zdc 2 (hc7.below h.below) rfl (Y0 5 rfl (dN h fun w9 h=>?_))))
   obtain rfl:=qb hF
   exact rG ⟨_,hK3,rfl,h⟩ rfl
  rintro e3 w10 ⟨b2,hF,rfl,h⟩
  subst hKF1
  refine qh rfl hF ?_ ?_<;>intro hF
  ·refine X0 4 rfl ?_
   obtain rfl:=qb hF;replace hF:=hK1
   exact rb h hF rfl
  refine X0 5 rfl ?_
  obtain ⟨o2,hF,hK2⟩:=qc hF
  refine qm (rL (fun m e w'=>∃ (i2:Int),qd3 a_1 y1 m i2=some o2∧e=[(2,.pointer (some ⟨bb1,0,none⟩)),(3,.pointer (some ⟨bb2,0,none⟩)),(5,.int .i64 (a_1.Am.length:Int)),(6,.int .i64 i1),(7,.pointer (some ⟨bb3,0,none⟩)),(8,.int .i64 i2)]∧SH w w' [Ch.box bb3 (qjj y1 p5 k5) 170,Ch.box bb2 (qaI a_1 p2 p3 p4 k2 k3 k4) 48,Ch.box bb1 [.slice p1 a_0.Aq.length k1] 44]) m1 ⟨_,hF,rfl,h⟩ rfl ?_)
  rintro m2 e2 w6 ⟨i2,hF,rfl,h⟩
  rcases m2 with _|m2
  ·cases hF
  refine X1 9 0 h rfl (qh rfl hF ?_ ?_)<;>intro hF
  ·refine X1 8 0 h rfl ?_
   obtain ⟨y2,hy2,hF,he2,b3,_,q2,cs4,hp2,hq2,rfl,hc5⟩:=s5.ix hF
   refine zxe hp2 hq2 he2 rfl (zc 0 (hc5.below h.below) rfl (zp2 rfl (zcB h hF qad rfl fun r1 w7 h hF=>X0 2 rfl (qh rfl hF ?_ ?_))))<;>intro hF
   ·refine X0 4 rfl ?_
    obtain rfl:=qb hF;replace hF:=hK2
    obtain rfl:=qb hF;replace hF:=hK1
    exact rb h hF rfl
   exact X0 7 rfl (rK ⟨_,hF,rfl,h⟩ rfl)
  refine qu rfl ?_
  obtain rfl:=qb hF;replace hF:=hK2
  refine X0 6 rfl ?_
  replace h:=h.pick [1,2] rfl
  exact rK ⟨_,hF,rfl,h⟩ rfl
 refine qu rfl ?_
 obtain rfl:=qb hF;replace hF:=hK1
 refine X0 5 rfl ?_
 obtain ⟨o4,hF,hK4⟩:=qc hF
 refine qm ?_
 replace h:=h.pick [0] rfl
 refine rL (fun m e w'=>∃ (i3:Int),qd1 a_1 m i3=some o4∧e=[(3,.pointer (some ⟨bb2,0,none⟩)),(5,.int .i64 (a_1.Am.length:Int)),(9,.int .i64 i3)]∧SH w w' [Ch.box bb2 (qaI a_1 p2 p3 p4 k2 k3 k4) 48]) n ⟨_,hF,rfl,h⟩ rfl ?_
 rintro m3 e4 w11 ⟨i3,hF,rfl,h⟩
 rcases m3 with _|m3
 ·cases hF
 refine X1 9 0 h rfl (qh rfl hF ?_ ?_)<;>intro hF
 ·refine X1 8 0 h rfl ?_
  obtain ⟨y4,hy4,hF,he4,b5,_,q4,cs6,hp4,hq4,hr6,hc9⟩:=s4.ix hF
  obtain rfl:=qa9 hr6
  refine zxe hp4 hq4 he4 rfl (zp1 rfl (zc 1 (hc9.below h.below) rfl (zcB h hF qad rfl fun r3 w12 h hF=>zp2 rfl (qi (t:=78) hF rfl ?_ ?_))))<;>intro hF
  ·refine X0 12 rfl (qbU rfl rfl (X0 4 rfl ?_))
   obtain rfl:=qb hF;replace hF:=hK4
   exact rb h hF rfl
  refine X1 7 0 h rfl ?_
  obtain ⟨y5,hy5,hF,he5,b6,_,q5,cs7,hp5,hq5,hr8,hc10⟩:=s4.ix hF
  obtain rfl:=qa9 hr8
  refine zxe hp5 hq5 he5 rfl (X0 3 rfl (zc 2 (hc10.below h.below) rfl (X0 5 rfl (zcB h hF qad rfl fun r4 w13 h hF=>X0 4 rfl (qh rfl hF ?_ ?_)))))<;>intro hF
  ·refine X0 4 rfl ?_
   obtain rfl:=qb hF;replace hF:=hK4
   exact rb h hF rfl
  exact X0 7 rfl (rK ⟨_,hF,rfl,h⟩ rfl)
 refine qu rfl ?_
 obtain rfl:=qb hF;replace hF:=hK4
 exact X0 4 rfl (rb h hF rfl)
def qec (list:(List ByteArray)) (i1:Int):Nat→Int→Option (Flow Bool Int)
 | 0,_=>none
 | n+1,i2 =>
  bif decide (i2<i1) then
   (idx list i2).bind fun y2 =>
   (idx list i1).bind fun y3 =>
   bif (y2.toList==y3.toList) then some (.ret false) else
   qec list i1 n (W64 (i2+1))
  else
   some (.nxt i2)
def qd4 (list:(List ByteArray)):Nat→Int→Option (Flow Bool Int)
 | 0,_=>none
 | n+1,i1 =>
  bif decide (i1<(list.length:Int)) then
   (idx list i1).bind fun y1 =>
   (qfI n y1).bind fun r1 =>
   bif (!r1) then some (.ret false) else
   (qec list i1 n 0).bind fun o=>match o with
   | .ret r=>some (.ret r)
   | .nxt _ =>
    qd4 list n (W64 (i1+1))
  else
   some (.nxt i1)
def qf4 (n:Nat) (list:(List ByteArray)):Option Bool :=
 (qd4 list n 0).bind fun o=>match o with
 | .ret r=>some r
 | .nxt _ =>
  some true
theorem qiC {list:(List ByteArray)} (ha1:GoT.R w (old w) list cs1) {r:Bool} (hF:qf4 n list=some r):RetV Tryz.prog 208 [GoT.v (List ByteArray) cs1] w r:=by
 obtain ⟨p1,k1,rfl,s1⟩:=ha1
 refine zV 31 Tryz.func208 rfl fun h=>X0 9 rfl ?_
 obtain ⟨o1,hF,hK1⟩:=qc hF
 refine qm (rL (fun m e w'=>∃ (i1:Int),qd4 list m i1=some o1∧e=[(0,.slice p1 list.length k1),(3,.int .i64 i1)]∧SH w w' []) n ⟨_,hF,rfl,h⟩ rfl ?_)
 rintro m1 e1 w1 ⟨i1,hF,rfl,h⟩
 rcases m1 with _|m1
 ·cases hF
 refine X0 8 rfl (qh rfl hF ?_ ?_)<;>intro hF
 ·refine X0 8 rfl ?_
  obtain ⟨y1,hy1,hF,he1,b1,_,q1,cs2,hp1,hq1,rfl,hc2⟩:=s1.ix hF
  refine zxe hp1 hq1 he1 rfl (zc 0 (hc2.below h.below) rfl (zcB h hF qht rfl fun r1 w2 h hF=>X0 2 rfl (qh rfl hF ?_ ?_)))<;>intro hF
  ·refine X0 4 rfl ?_
   obtain rfl:=qb hF;replace hF:=hK1
   exact rb h hF rfl
  refine X0 5 rfl ?_
  obtain ⟨o2,hF,hK2⟩:=qc hF
  refine qm (rL (fun m e w'=>∃ (i2:Int),qec list i1 m i2=some o2∧e=[(0,.slice p1 list.length k1),(3,.int .i64 i1),(4,.int .i64 i2)]∧SH w w' []) m1 ⟨_,hF,rfl,h⟩ rfl ?_)
  rintro m2 e2 w3 ⟨i2,hF,rfl,h⟩
  rcases m2 with _|m2
  ·cases hF
  refine X0 7 rfl (qh rfl hF ?_ ?_)<;>intro hF
  ·refine X0 4 rfl (rD (zd2 rfl ?_))
   obtain ⟨y2,hy2,hF,he2,b2,_,q2,cs3,hp2,hq2,rfl,hc5⟩:=s1.ix hF
   refine zdxe hp2 hq2 he2 rfl (zdc 0 (hc5.below h.below) rfl (zd2 rfl ?_))
   obtain ⟨y3,hy3,hF,he3,b3,_,q3,cs4,hp3,hq3,rfl,hc6⟩:=s1.ix hF
   refine zdxe hp3 hq3 he3 rfl (zdc 0 (hc6.below h.below) rfl (zd1 rfl (dN h fun w4 h=>qh rfl hF ?_ ?_)))<;>intro hF
   ·refine X0 4 rfl ?_
    obtain rfl:=qb hF;replace hF:=hK2
    obtain rfl:=qb hF;replace hF:=hK1
    exact rb h hF rfl
   exact X0 7 rfl (rK ⟨_,hF,rfl,h⟩ rfl)
  refine qu rfl ?_
  obtain rfl:=qb hF;replace hF:=hK2
  exact X0 6 rfl (rK ⟨_,hF,rfl,h⟩ rfl)
 refine qu rfl ?_
 obtain rfl:=qb hF;replace hF:=hK1
 exact X0 4 rfl (rb h hF rfl)
def qd8 (x5:(List Int)) (x7:(List Int)):Nat→Int→Option (Flow Bool Int)
 | 0,_=>none
 | n+1,i5 =>
  bif decide (i5<(x5.length:Int)) then
   (idx x7 i5).bind fun y11 =>
   bif (y11 != 1) then some (.ret false) else
   qd8 x5 x7 n (W64 (i5+1))
  else
   some (.nxt i5)
def qck (a_1:qe):Nat→(List Int)→Int→Option ((List Int) × Int)
 | 0,_,_=>none
 | n+1,x7,i4 =>
  bif decide (i4<(a_1.Aj.length:Int)) then
   (idx a_1.Aj i4).bind fun y7 =>
   bif (y7.Bv==1) then
    (idx a_1.Aj i4).bind fun y8 =>
    (idx x7 y8.Bx).bind fun y9 =>
    (idx x7 y8.Bx).bind fun _ =>
    qck a_1 n (setS x7 y8.Bx (W64 (y9+1))) (W64 (i4+1))
   else
    qck a_1 n x7 (W64 (i4+1))
  else
   some (x7,i4)
def qc3 (a_1:qe):Nat→(List Int)→Int→Option ((List Int) × Int)
 | 0,_,_=>none
 | n+1,x6,i3 =>
  bif decide (i3<(a_1.Aa.length:Int)) then
   (idx a_1.Aa i3).bind fun y3 =>
   (idx y3.Am (W64 ((y3.Am.length:Int)-1))).bind fun y4 =>
   (idx x6 y4).bind fun y5 =>
   (idx x6 y4).bind fun _ =>
   qc3 a_1 n (setS x6 y4 (W64 (y5+1))) (W64 (i3+1))
  else
   some (x6,i3)
def qc8 (a_1:qe):Nat→(List ByteArray)→Int→Option ((List ByteArray) × Int)
 | 0,_,_=>none
 | n+1,x3,i2 =>
  bif decide (i2<(a_1.Aj.length:Int)) then
   (idx a_1.Aj i2).bind fun y2 =>
   (appS x3 ([y2.Bb]:List ByteArray)).bind fun x4 =>
   qc8 a_1 n x4 (W64 (i2+1))
  else
   some (x3,i2)
def qc2 (a_1:qe):Nat→(List ByteArray)→Int→Option ((List ByteArray) × Int)
 | 0,_,_=>none
 | n+1,x1,i1 =>
  bif decide (i1<(a_1.Aa.length:Int)) then
   (idx a_1.Aa i1).bind fun y1 =>
   (appS x1 ([y1.Bb]:List ByteArray)).bind fun x2 =>
   qc2 a_1 n x2 (W64 (i1+1))
  else
   some (x1,i1)
def qiW (n:Nat) (a_0:qq) (a_1:qe):Option Bool :=
 (
  (qin n a_0).bind fun r4 =>
  bif (!r4) then some true else
  bif decide ((a_1.Aa.length:Int) > 14) then some true else
  bif decide ((a_1.Am.length:Int) > 30) then some true else
  bif decide ((a_1.Aj.length:Int) > 8) then some true else
  (qiM n a_0 a_1).bind fun r5 =>
  some (!r5)).bind fun b1 =>
 bif b1 then some false else
 (qc2 a_1 n ([]:List ByteArray) 0).bind fun o=>match o with
 | (x1,_) =>
  (qc8 a_1 n ([]:List ByteArray) 0).bind fun o=>match o with
  | (x3,_) =>
   (
    (qf4 n x1).bind fun r1 =>
    bif (!r1) then some true else
    (qf4 n x3).bind fun r2 =>
    bif (!r2) then some true else
    (qf4 n a_1.Am).bind fun r3 =>
    some (!r3)).bind fun b4 =>
   bif b4 then some false else
   (mkS (a_1.Am.length:Int) (0:Int)).bind fun x5 =>
   (qc3 a_1 n x5 0).bind fun o=>match o with
   | (x6,_) =>
    (qck a_1 n x6 0).bind fun o=>match o with
    | (x7,_) =>
     (qd8 x5 x7 n 0).bind fun o=>match o with
     | .ret r=>some r
     | .nxt _ =>
      some true
theorem qoK {a_0:qq} {a_1:qe} (ha1:GoT.R w (old w) a_0 cs1) (ha2:GoT.R w (old w) a_1 cs2) {r:Bool} (hF:qiW n a_0 a_1=some r):RetV Tryz.prog 177 [GoT.v qq cs1,GoT.v qe cs2] w r:=by
 obtain ⟨p1,k1,rfl,s1⟩:=qbA ha1
 obtain ⟨p2,k2,p3,k3,p4,k4,rfl,s2,s3,s4⟩:=qau ha2
 refine zV 153 Tryz.func177 rfl fun h=>zSR (qv h rfl rfl fun w1 bb1 h=>qv h rfl rfl fun w2 bb2 h=>X0 4 rfl ?_)
 obtain ⟨KF2,hKF2,o7,hF,hK7⟩:=bindE hF
 refine qbl (fun e w'=>∃ (b1:Bool),KF2 b1=some r∧e=[(3,.pointer (some ⟨bb2,0,none⟩)),(40,.bool b1)]∧SH w w' [Ch.box bb2 (qaI a_1 p2 p3 p4 k2 k3 k4) 48]) ?_ ?_
 ·refine X1 2 1 h rfl (zcB h hF (qnX (h.old ha1)) rfl fun r4 w21 h hF=>zp2 rfl (qi (t:=17) hF rfl ?_ ?_))<;>intro hF
  ·refine X0 24 rfl ?_
   replace h:=h.pick [0] rfl
   obtain rfl:=qb hF
   exact rG ⟨_,hK7,rfl,h⟩ rfl
  refine X1 10 0 h rfl (qi (t:=23) hF rfl ?_ ?_)<;>intro hF
  ·refine X0 18 rfl ?_
   replace h:=h.pick [0] rfl
   obtain rfl:=qb hF
   exact rG ⟨_,hK7,rfl,h⟩ rfl
  refine X1 10 0 h rfl (qi (t:=29) hF rfl ?_ ?_)<;>intro hF
  ·refine X0 12 rfl ?_
   replace h:=h.pick [0] rfl
   obtain rfl:=qb hF
   exact rG ⟨_,hK7,rfl,h⟩ rfl
  refine X1 10 0 h rfl (qi (t:=35) hF rfl ?_ ?_)<;>intro hF
  ·refine X0 6 rfl ?_
   replace h:=h.pick [0] rfl
   obtain rfl:=qb hF
   exact rG ⟨_,hK7,rfl,h⟩ rfl
  refine X2 5 1 0 h rfl (zcB h hF (qo1 (h.old ha1) (h.old ha2)) rfl fun r5 w22 h hF=>X0 4 rfl ?_)
  replace h:=h.pick [0] rfl
  obtain rfl:=qb hF
  exact rG ⟨_,hK7,rfl,h⟩ rfl
 rintro e7 w23 ⟨b1,hF,rfl,h⟩
 subst hKF2
 refine qh rfl hF ?_ ?_<;>intro hF
 ·exact X0 4 rfl (rb h hF rfl)
 refine zKSR (qK qa [] _ ([]:List ByteArray) h rfl rfl rfl rfl rfl rfl rfl rfl rfl trivial rfl fun w3 p5 S1 h=>X0 7 rfl ?_)
 obtain ⟨o1,hF,hK1⟩:=qc hF
 refine qm (rL (fun m e w'=>∃ (S2:Nat→Prop) (p6:Option Addr) (ln1:Nat) (k5:Nat) (x1:(List ByteArray)) (i1:Int),qc2 a_1 m x1 i1=some o1∧e=[(3,.pointer (some ⟨bb2,0,none⟩)),(5,.slice p6 ln1 k5),(6,.int .i64 i1)]∧SH w w' [Ch.own S2 (x1:List ByteArray) [.slice p6 ln1 k5],Ch.box bb2 (qaI a_1 p2 p3 p4 k2 k3 k4) 48]) n ⟨_,_,_,_,_,_,hF,rfl,h⟩ rfl ?_)
 rintro m1 e1 w4 ⟨S2,p6,ln1,k5,x1,i1,hF,rfl,h⟩
 obtain rfl:=(h.sl 0 rfl).2
 rcases m1 with _|m1
 ·cases hF
 refine X1 9 1 h rfl (qh rfl hF ?_ ?_)<;>intro hF
 ·refine X1 8 1 h rfl ?_
  obtain ⟨y1,hy1,hF,he1,b2,_,q1,cs3,hp1,hq1,hr1,hc3⟩:=s2.ix hF
  obtain ⟨p7,k6,rfl,s5⟩:=qN hr1
  refine zxe hp1 hq1 he1 rfl (zp1 rfl (zc 0 (hc3.below h.below) rfl (qK qa [.tmp 55] _ ([y1.Bb]:List ByteArray) h rfl rfl rfl rfl rfl rfl rfl rfl rfl ⟨rfl,trivial⟩ rfl fun w5 p8 S3 h=>?_)))
  obtain ⟨x2,hx1,hF⟩:=qc hF
  obtain ⟨g1,hx1⟩:=qay hx1
  refine qcw qa 1 h rfl (h.sl 0 rfl).1 (h.sl 0 rfl).2 rfl rfl rfl rfl rfl rfl rfl rfl rfl g1 hx1 rfl fun w6 p9 k7 S4 h=>X0 8 rfl ?_
  replace h:=h.pick [1,2] rfl
  exact rK ⟨_,_,_,_,_,_,hF,rfl,h⟩ rfl
 refine qu rfl ?_
 obtain rfl:=qb hF;replace hF:=hK1
 refine zSR (qK qa [] _ ([]:List ByteArray) h rfl rfl rfl rfl rfl rfl rfl rfl rfl trivial rfl fun w7 p10 S5 h=>X0 7 rfl ?_)
 obtain ⟨o2,hF,hK2⟩:=qc hF
 refine qm (rL (fun m e w'=>∃ (S6:Nat→Prop) (p11:Option Addr) (ln2:Nat) (k8:Nat) (x3:(List ByteArray)) (i2:Int),qc8 a_1 m x3 i2=some o2∧e=[(3,.pointer (some ⟨bb2,0,none⟩)),(5,.slice p6 x1.length k5),(7,.slice p11 ln2 k8),(8,.int .i64 i2)]∧SH w w' [Ch.own S6 (x3:List ByteArray) [.slice p11 ln2 k8],Ch.own S2 (x1:List ByteArray) [.slice p6 x1.length k5],Ch.box bb2 (qaI a_1 p2 p3 p4 k2 k3 k4) 48]) n ⟨_,_,_,_,_,_,hF,rfl,h⟩ rfl ?_)
 rintro m2 e2 w8 ⟨S6,p11,ln2,k8,x3,i2,hF,rfl,h⟩
 obtain rfl:=(h.sl 0 rfl).2
 rcases m2 with _|m2
 ·cases hF
 refine X1 9 2 h rfl (qh rfl hF ?_ ?_)<;>intro hF
 ·refine X1 8 2 h rfl ?_
  obtain ⟨y2,hy2,hF,he2,b3,_,q2,cs4,hp2,hq2,hr2,hc5⟩:=s4.ix hF
  obtain rfl:=qa9 hr2
  refine zxe hp2 hq2 he2 rfl (zp1 rfl (zc 0 (hc5.below h.below) rfl (qK qa [.tmp 72] _ ([y2.Bb]:List ByteArray) h rfl rfl rfl rfl rfl rfl rfl rfl rfl ⟨rfl,trivial⟩ rfl fun w9 p12 S7 h=>?_)))
  obtain ⟨x4,hx2,hF⟩:=qc hF
  obtain ⟨g2,hx2⟩:=qay hx2
  refine qcw qa 1 h rfl (h.sl 0 rfl).1 (h.sl 0 rfl).2 rfl rfl rfl rfl rfl rfl rfl rfl rfl g2 hx2 rfl fun w10 p13 k9 S8 h=>X0 8 rfl ?_
  replace h:=h.pick [1,2,3] rfl
  exact rK ⟨_,_,_,_,_,_,hF,rfl,h⟩ rfl
 refine qu rfl ?_
 obtain rfl:=qb hF;replace hF:=hK2
 refine zSS ?_
 obtain ⟨KF1,hKF1,o6,hF,hK6⟩:=bindE hF
 refine qbl (fun e w'=>∃ (b4:Bool),KF1 b4=some r∧e=[(3,.pointer (some ⟨bb2,0,none⟩)),(88,.bool b4)]∧SH w w' [Ch.box bb2 (qaI a_1 p2 p3 p4 k2 k3 k4) 48]) ?_ ?_
 ·refine X0 2 rfl (zcB h hF (qiC (h.own 1 rfl)) rfl fun r1 w17 h hF=>zp2 rfl (qi (t:=78) hF rfl ?_ ?_))<;>intro hF
  ·refine X0 11 rfl ?_
   replace h:=h.pick [2] rfl
   obtain rfl:=qb hF
   exact rG ⟨_,hK6,rfl,h⟩ rfl
  refine X0 3 rfl (zcB h hF (qiC (h.own 0 rfl)) rfl fun r2 w18 h hF=>X0 4 rfl (qi (t:=83) hF rfl ?_ ?_))<;>intro hF
  ·refine X0 6 rfl ?_
   replace h:=h.pick [2] rfl
   obtain rfl:=qb hF
   exact rG ⟨_,hK6,rfl,h⟩ rfl
  refine X1 5 2 h rfl (zcB h hF (qiC ⟨_,_,rfl,(h.oldS s3)⟩) rfl fun r3 w19 h hF=>X0 4 rfl ?_)
  replace h:=h.pick [2] rfl
  obtain rfl:=qb hF
  exact rG ⟨_,hK6,rfl,h⟩ rfl
 rintro e6 w20 ⟨b4,hF,rfl,h⟩
 subst hKF1
 refine qh rfl hF ?_ ?_<;>intro hF
 ·exact X0 4 rfl (rb h hF rfl)
 refine X1 6 0 h rfl ?_
 obtain ⟨x5,hx3,hF⟩:=qc hF
 obtain ⟨g3,g4,hx3⟩:=qO hx3
 refine qai qa Int h rfl rfl rfl rfl rfl rfl rfl rfl rfl g3 g4 hx3 rfl fun w11 S9 p14 h=>X0 7 rfl ?_
 obtain ⟨o3,hF,hK3⟩:=qc hF
 refine qm (rL (fun m e w'=>∃ (x6:(List Int)) (i3:Int),qc3 a_1 m x6 i3=some o3∧e=[(3,.pointer (some ⟨bb2,0,none⟩)),(9,.slice p14 x5.length x5.length),(10,.int .i64 i3)]∧SH w w' [Ch.own S9 (x6:List Int) [.slice p14 x5.length x5.length],Ch.box bb2 (qaI a_1 p2 p3 p4 k2 k3 k4) 48]) n ⟨_,_,hF,rfl,h⟩ rfl ?_)
 rintro m3 e3 w12 ⟨x6,i3,hF,rfl,h⟩
 rcases m3 with _|m3
 ·cases hF
 refine X1 9 1 h rfl (qh rfl hF ?_ ?_)<;>intro hF
 ·refine X1 8 1 h rfl ?_
  obtain ⟨y3,hy3,hF,he3,b5,_,q3,cs5,hp3,hq3,hr3,hc8⟩:=s2.ix hF
  obtain ⟨p15,k10,rfl,s6⟩:=qN hr3
  refine zxe hp3 hq3 he3 rfl (zp1 rfl (zc 2 (hc8.below h.below) rfl (X0 8 rfl ?_)))
  obtain ⟨y4,hy4,hF,he4,b6,_,q4,cs6,hp4,hq4,rfl,hc9⟩:=s6.ix hF
  refine zxe hp4 hq4 he4 rfl (zc 0 (hc9.below h.below) rfl ?_)
  obtain ⟨y5,hy5,hF,he5,b7,_,q5,cs7,hp5,hq5,rfl,hc10⟩:=(h.sl 0 rfl).1.ix hF
  refine zx hp5 hq5 ⟨he5.1,qV he5.2.1 (h.sl 0 rfl).2⟩ rfl (zc 0 hc10 rfl (zp1 rfl ?_))
  obtain ⟨y6,hy6,hF,he6,b8,_,q6,cs8,hp6,hq6,rfl,hc11⟩:=(h.sl 0 rfl).1.ix hF
  exact zx hp6 hq6 ⟨he6.1,qV he6.2.1 (h.sl 0 rfl).2⟩ rfl (qbw qa 0 0 (W64 (y5+1)) h rfl hy6 hp6 hq6 rfl hc11 rfl rfl rfl rfl rfl rfl rfl fun w13 h=>X0 7 rfl (rK ⟨_,_,hF,rfl,h⟩ rfl))
 refine qu rfl ?_
 obtain rfl:=qb hF;replace hF:=hK3
 refine X0 5 rfl ?_
 obtain ⟨o4,hF,hK4⟩:=qc hF
 refine qm (rL (fun m e w'=>∃ (x7:(List Int)) (i4:Int),qck a_1 m x7 i4=some o4∧e=[(3,.pointer (some ⟨bb2,0,none⟩)),(9,.slice p14 x5.length x5.length),(12,.int .i64 i4)]∧SH w w' [Ch.own S9 (x7:List Int) [.slice p14 x5.length x5.length],Ch.box bb2 (qaI a_1 p2 p3 p4 k2 k3 k4) 48]) n ⟨_,_,hF,rfl,h⟩ rfl ?_)
 rintro m4 e4 w14 ⟨x7,i4,hF,rfl,h⟩
 rcases m4 with _|m4
 ·cases hF
 refine X1 9 1 h rfl (qh rfl hF ?_ ?_)<;>intro hF
 ·refine X1 8 1 h rfl ?_
  obtain ⟨y7,hy7,hF,he7,b9,_,q7,cs9,hp7,hq7,hr7,hc13⟩:=s4.ix hF
  obtain rfl:=qa9 hr7
  refine zxe hp7 hq7 he7 rfl (zp1 rfl (zc 1 (hc13.below h.below) rfl (X0 2 rfl (qh rfl hF ?_ ?_))))<;>intro hF
  ·refine X1 5 1 h rfl ?_
   obtain ⟨y8,hy8,hF,he8,b10,_,q8,cs10,hp8,hq8,hr8,hc15⟩:=s4.ix hF
   obtain rfl:=qa9 hr8
   refine zxe hp8 hq8 he8 rfl (zp1 rfl (zc 2 (hc15.below h.below) rfl ?_))
   obtain ⟨y9,hy9,hF,he9,b11,_,q9,cs11,hp9,hq9,rfl,hc16⟩:=(h.sl 0 rfl).1.ix hF
   refine zx hp9 hq9 ⟨he9.1,qV he9.2.1 (h.sl 0 rfl).2⟩ rfl (zc 0 hc16 rfl (zp1 rfl ?_))
   obtain ⟨y10,hy10,hF,he10,b12,_,q10,cs12,hp10,hq10,rfl,hc17⟩:=(h.sl 0 rfl).1.ix hF
   exact zx hp10 hq10 ⟨he10.1,qV he10.2.1 (h.sl 0 rfl).2⟩ rfl (qbw qa 0 0 (W64 (y9+1)) h rfl hy10 hp10 hq10 rfl hc17 rfl rfl rfl rfl rfl rfl rfl fun w15 h=>X0 7 rfl (rK ⟨_,_,hF,rfl,h⟩ rfl))
  exact X0 7 rfl (rK ⟨_,_,hF,rfl,h⟩ rfl)
 refine qu rfl ?_
 obtain rfl:=qb hF;replace hF:=hK4
 refine X0 5 rfl ?_
 obtain ⟨o5,hF,hK5⟩:=qc hF
 refine qm ?_
 replace h:=h.pick [0] rfl
 refine rL (fun m e w'=>∃ (i5:Int),qd8 x5 x7 m i5=some o5∧e=[(9,.slice p14 x5.length x5.length),(13,.int .i64 i5)]∧SH w w' [Ch.own S9 (x7:List Int) [.slice p14 x5.length x5.length]]) n ⟨_,hF,rfl,h⟩ rfl ?_
 rintro m5 e5 w16 ⟨i5,hF,rfl,h⟩
 rcases m5 with _|m5
 ·cases hF
 refine X0 8 rfl (qh rfl hF ?_ ?_)<;>intro hF
 ·refine X0 7 rfl ?_
  obtain ⟨y11,hy11,hF,he11,b13,_,q11,cs13,hp11,hq11,rfl,hc19⟩:=(h.sl 0 rfl).1.ix hF
  refine zx hp11 hq11 ⟨he11.1,qV he11.2.1 (h.sl 0 rfl).2⟩ rfl (zc 0 hc19 rfl (X0 2 rfl (qh rfl hF ?_ ?_)))<;>intro hF
  ·refine X0 4 rfl ?_
   obtain rfl:=qb hF;replace hF:=hK5
   exact rb h hF rfl
  exact X0 7 rfl (rK ⟨_,hF,rfl,h⟩ rfl)
 refine qu rfl ?_
 obtain rfl:=qb hF;replace hF:=hK5
 exact X0 4 rfl (rb h hF rfl)
def qfe (a_0:qQ):Nat→Int→Option (Flow Bool Int)
 | 0,_=>none
 | n+1,i2 =>
  bif decide (i2<(a_0.Bl.length:Int)) then
   (idx a_0.Bl i2).bind fun y7 =>
   (qas n y7 0 (W64 ((a_0.Ak.length:Int)-1))).bind fun r5 =>
   bif (!r5) then some (.ret false) else
   qfe a_0 n (W64 (i2+1))
  else
   some (.nxt i2)
def qcA (a_0:qQ):Nat→Int→Option (Flow Bool Int)
 | 0,_=>none
 | n+1,i1 =>
  bif decide (i1<(a_0.Ak.length:Int)) then
   (
    (idx a_0.Bt i1).bind fun y5 =>
    (qas n y5 0 500).bind fun r3 =>
    bif (!r3) then some true else
    (idx a_0.Bw i1).bind fun y6 =>
    (qas n y6 0 1000).bind fun r4 =>
    some (!r4)).bind fun b2 =>
   bif b2 then some (.ret false) else
   bif (i1==0) then
    (idx a_0.Ak i1).bind fun y1 =>
    bif (y1 != (-1)) then some (.ret false) else
    (idx a_0.Bw i1).bind fun y2 =>
    bif (y2 != 0) then some (.ret false) else
    bif decide (i1 > 0) then
     (idx a_0.Ak i1).bind fun y3 =>
     (qas n y3 0 (W64 (i1-1))).bind fun r1 =>
     bif (!r1) then some (.ret false) else
     qcA a_0 n (W64 (i1+1))
    else
     qcA a_0 n (W64 (i1+1))
   else
    bif decide (i1 > 0) then
     (idx a_0.Ak i1).bind fun y4 =>
     (qas n y4 0 (W64 (i1-1))).bind fun r2 =>
     bif (!r2) then some (.ret false) else
     qcA a_0 n (W64 (i1+1))
    else
     qcA a_0 n (W64 (i1+1))
  else
   some (.nxt i1)
def qkQ (n:Nat) (a_0:qQ) (a_1:Int):Option Bool :=
 (
  bif decide ((a_0.Ak.length:Int)<1) then some true else
  bif decide ((a_0.Ak.length:Int) > 8) then some true else
  bif ((a_0.Bw.length:Int) != (a_0.Ak.length:Int)) then some true else
  bif ((a_0.Bt.length:Int) != (a_0.Ak.length:Int)) then some true else
  some ((a_0.Bl.length:Int) != a_1)).bind fun b1 =>
 bif b1 then some false else
 (qcA a_0 n 0).bind fun o=>match o with
 | .ret r=>some r
 | .nxt _ =>
  (qfe a_0 n 0).bind fun o=>match o with
  | .ret r=>some r
  | .nxt _ =>
   some true
theorem qqv {a_0:qQ} {a_1:Int} (ha1:GoT.R w (old w) a_0 cs1) {r:Bool} (hF:qkQ n a_0 a_1=some r):RetV Tryz.prog 178 [GoT.v qQ cs1,.int .i64 a_1] w r:=by
 obtain ⟨p1,k1,p2,k2,p3,k3,p4,k4,rfl,s1,s2,s3,s4⟩:=qaK ha1
 refine zV 108 Tryz.func178 rfl fun h=>zSR (qv h rfl rfl fun w1 bb1 h=>X1 11 0 h rfl ?_)
 obtain ⟨KF2,hKF2,o4,hF,hK4⟩:=bindE hF
 refine qbl (fun e w'=>∃ (b1:Bool),KF2 b1=some r∧e=[(2,.pointer (some ⟨bb1,0,none⟩)),(5,.int .i64 (a_0.Ak.length:Int)),(37,.bool b1)]∧SH w w' [Ch.box bb1 (qgd a_0 p1 p2 p3 p4 k1 k2 k3 k4) 186]) ?_ ?_
 ·refine X0 4 rfl (qi (t:=13) hF rfl ?_ ?_)<;>intro hF
  ·refine X0 25 rfl ?_
   obtain rfl:=qb hF
   exact rG ⟨_,hK4,rfl,h⟩ rfl
  refine X0 6 rfl (qi (t:=17) hF rfl ?_ ?_)<;>intro hF
  ·refine X0 21 rfl ?_
   obtain rfl:=qb hF
   exact rG ⟨_,hK4,rfl,h⟩ rfl
  refine X1 12 0 h rfl (qi (t:=24) hF rfl ?_ ?_)<;>intro hF
  ·refine X0 14 rfl ?_
   obtain rfl:=qb hF
   exact rG ⟨_,hK4,rfl,h⟩ rfl
  refine X1 12 0 h rfl (qi (t:=31) hF rfl ?_ ?_)<;>intro hF
  ·refine X0 7 rfl ?_
   obtain rfl:=qb hF
   exact rG ⟨_,hK4,rfl,h⟩ rfl
  refine X1 12 0 h rfl ?_
  obtain rfl:=qb hF
  exact rG ⟨_,hK4,rfl,h⟩ rfl
 rintro e4 w10 ⟨b1,hF,rfl,h⟩
 subst hKF2
 refine qh rfl hF ?_ ?_<;>intro hF
 ·exact X0 4 rfl (rb h hF rfl)
 refine X0 6 rfl ?_
 obtain ⟨o1,hF,hK1⟩:=qc hF
 refine qm (rL (fun m e w'=>∃ (i1:Int),qcA a_0 m i1=some o1∧e=[(2,.pointer (some ⟨bb1,0,none⟩)),(5,.int .i64 (a_0.Ak.length:Int)),(6,.int .i64 i1)]∧SH w w' [Ch.box bb1 (qgd a_0 p1 p2 p3 p4 k1 k2 k3 k4) 186]) n ⟨_,hF,rfl,h⟩ rfl ?_)
 rintro m1 e1 w2 ⟨i1,hF,rfl,h⟩
 rcases m1 with _|m1
 ·cases hF
 refine X0 7 rfl (qh rfl hF ?_ ?_)<;>intro hF
 ·refine X0 5 rfl ?_
  obtain ⟨KF1,hKF1,o2,hF,hK2⟩:=bindE hF
  refine qbl (fun e w'=>∃ (b2:Bool),KF1 b2=some o1∧e=[(2,.pointer (some ⟨bb1,0,none⟩)),(5,.int .i64 (a_0.Ak.length:Int)),(6,.int .i64 i1),(58,.bool b2)]∧SH w w' [Ch.box bb1 (qgd a_0 p1 p2 p3 p4 k1 k2 k3 k4) 186]) ?_ ?_
  ·refine X1 4 0 h rfl ?_
   obtain ⟨y5,hy5,hF,he5,b7,_,q5,cs6,hp5,hq5,rfl,hc10⟩:=s3.ix hF
   refine zxe hp5 hq5 he5 rfl (zc 0 (hc10.below h.below) rfl (zcB h hF qad rfl fun r3 w5 h hF=>zp2 rfl (qi (t:=50) hF rfl ?_ ?_)))<;>intro hF
   ·refine X0 9 rfl ?_
    obtain rfl:=qb hF
    exact rG ⟨_,hK2,rfl,h⟩ rfl
   refine X1 7 0 h rfl ?_
   obtain ⟨y6,hy6,hF,he6,b8,_,q6,cs7,hp6,hq6,rfl,hc11⟩:=s2.ix hF
   refine zxe hp6 hq6 he6 rfl (X0 1 rfl (zc 0 (hc11.below h.below) rfl (X0 1 rfl (zcB h hF qad rfl fun r4 w6 h hF=>X0 4 rfl ?_))))
   obtain rfl:=qb hF
   exact rG ⟨_,hK2,rfl,h⟩ rfl
  rintro e2 w7 ⟨b2,hF,rfl,h⟩
  subst hKF1
  refine qh rfl hF ?_ ?_<;>intro hF
  ·refine X0 4 rfl ?_
   obtain rfl:=qb hF;replace hF:=hK1
   exact rb h hF rfl
  refine X0 6 rfl (qi (t:=61) hF rfl ?_ ?_)<;>intro hF
  ·refine X1 7 0 h rfl ?_
   obtain ⟨y1,hy1,hF,he1,b3,_,q1,cs2,hp1,hq1,rfl,hc4⟩:=s1.ix hF
   refine zxe hp1 hq1 he1 rfl (X0 1 rfl (zc 0 (hc4.below h.below) rfl (X0 4 rfl (qi (t:=68) hF rfl ?_ ?_))))<;>intro hF
   ·refine X0 25 rfl (qbU rfl rfl (X0 4 rfl ?_))
    obtain rfl:=qb hF;replace hF:=hK1
    exact rb h hF rfl
   refine X1 7 0 h rfl ?_
   obtain ⟨y2,hy2,hF,he2,b4,_,q2,cs3,hp2,hq2,rfl,hc5⟩:=s2.ix hF
   refine zxe hp2 hq2 he2 rfl (X0 1 rfl (zc 0 (hc5.below h.below) rfl (X0 6 rfl (qi (t:=77) hF rfl ?_ ?_))))<;>intro hF
   ·refine X0 15 rfl (qbU rfl rfl (X0 4 rfl ?_))
    obtain rfl:=qb hF;replace hF:=hK1
    exact rb h hF rfl
   refine X0 6 rfl (qi (t:=80) hF rfl ?_ ?_)<;>intro hF
   ·refine X1 7 0 h rfl ?_
    obtain ⟨y3,hy3,hF,he3,b5,_,q3,cs4,hp3,hq3,rfl,hc6⟩:=s1.ix hF
    refine zxe hp3 hq3 he3 rfl (X0 1 rfl (zc 0 (hc6.below h.below) rfl (X0 5 rfl (zcB h hF qad rfl fun r1 w3 h hF=>X0 6 rfl (qh rfl hF ?_ ?_)))))<;>intro hF
    ·refine X0 4 rfl ?_
     obtain rfl:=qb hF;replace hF:=hK1
     exact rb h hF rfl
    exact X0 7 rfl (rK ⟨_,hF,rfl,h⟩ rfl)
   exact X0 13 rfl (qbV rfl rfl (X0 7 rfl (rK ⟨_,hF,rfl,h⟩ rfl)))
  refine X0 22 rfl (qi (t:=80) hF rfl ?_ ?_)<;>intro hF
  ·refine X1 7 0 h rfl ?_
   obtain ⟨y4,hy4,hF,he4,b6,_,q4,cs5,hp4,hq4,rfl,hc8⟩:=s1.ix hF
   refine zxe hp4 hq4 he4 rfl (X0 1 rfl (zc 0 (hc8.below h.below) rfl (X0 5 rfl (zcB h hF qad rfl fun r2 w4 h hF=>X0 6 rfl (qh rfl hF ?_ ?_)))))<;>intro hF
   ·refine X0 4 rfl ?_
    obtain rfl:=qb hF;replace hF:=hK1
    exact rb h hF rfl
   exact X0 7 rfl (rK ⟨_,hF,rfl,h⟩ rfl)
  exact X0 13 rfl (qbV rfl rfl (X0 7 rfl (rK ⟨_,hF,rfl,h⟩ rfl)))
 refine qu rfl ?_
 obtain rfl:=qb hF;replace hF:=hK1
 refine X0 5 rfl ?_
 obtain ⟨o3,hF,hK3⟩:=qc hF
 refine qm (rL (fun m e w'=>∃ (i2:Int),qfe a_0 m i2=some o3∧e=[(2,.pointer (some ⟨bb1,0,none⟩)),(5,.int .i64 (a_0.Ak.length:Int)),(7,.int .i64 i2)]∧SH w w' [Ch.box bb1 (qgd a_0 p1 p2 p3 p4 k1 k2 k3 k4) 186]) n ⟨_,hF,rfl,h⟩ rfl ?_)
 rintro m2 e3 w8 ⟨i2,hF,rfl,h⟩
 rcases m2 with _|m2
 ·cases hF
 refine X1 9 0 h rfl (qh rfl hF ?_ ?_)<;>intro hF
 ·refine X1 8 0 h rfl ?_
  obtain ⟨y7,hy7,hF,he7,b9,_,q7,cs8,hp7,hq7,rfl,hc13⟩:=s4.ix hF
  refine zxe hp7 hq7 he7 rfl (zc 0 (hc13.below h.below) rfl (zp2 rfl (zcB h hF qad rfl fun r5 w9 h hF=>X0 2 rfl (qh rfl hF ?_ ?_))))<;>intro hF
  ·refine X0 4 rfl ?_
   obtain rfl:=qb hF;replace hF:=hK3
   exact rb h hF rfl
  exact X0 7 rfl (rK ⟨_,hF,rfl,h⟩ rfl)
 refine qu rfl ?_
 obtain rfl:=qb hF;replace hF:=hK3
 exact X0 4 rfl (rb h hF rfl)
def qeu (b:qf):Nat→Int→Option (Flow Bool Int)
 | 0,_=>none
 | n+1,i1 =>
  bif decide (i1<(b.Ac.length:Int)) then
   (idx b.Ac i1).bind fun y1 =>
   (qf3 n (⟨b.Ab.Aa,b.Ab.Am,b.Ab.Aj⟩:qe) i1).bind fun r1 =>
   (qkQ n y1 (r1.length:Int)).bind fun r2 =>
   bif (!r2) then some (.ret false) else
   qeu b n (W64 (i1+1))
  else
   some (.nxt i1)
def qgG (n:Nat) (b:qf):Option Bool :=
 (
  (qiW n (⟨b.Ay.Aq⟩:qq) (⟨b.Ab.Aa,b.Ab.Am,b.Ab.Aj⟩:qe)).bind fun r3 =>
  bif (!r3) then some true else
  some ((b.Ac.length:Int) != (b.Ab.Am.length:Int))).bind fun b1 =>
 bif b1 then some false else
 (qeu b n 0).bind fun o=>match o with
 | .ret r=>some r
 | .nxt _ =>
  some true
theorem qmk {b:qf} (ha1:GoT.R w (old w) b cs1) {r:Bool} (hF:qgG n b=some r):RetV Tryz.prog 143 [GoT.v qf cs1] w r:=by
 obtain ⟨p1,k1,p2,k2,p3,k3,p4,k4,p5,k5,rfl,s1,s2,s3,s4,s5⟩:=qaa ha1
 refine zV 39 Tryz.func143 rfl fun h=>zSR (qv h rfl rfl fun w1 bb1 h=>X0 4 rfl ?_)
 obtain ⟨KF1,hKF1,o2,hF,hK2⟩:=bindE hF
 refine qbl (fun e w'=>∃ (b1:Bool),KF1 b1=some r∧e=[(1,.pointer (some ⟨bb1,0,none⟩)),(19,.bool b1)]∧SH w w' [Ch.box bb1 (qaP b p1 p2 p3 p4 p5 k1 k2 k3 k4 k5) 51]) ?_ ?_
 ·refine X2 5 0 0 h rfl (zcB h hF (qoK (qdO _ (h.oldS s1)) (qao _ (h.oldS s2) (h.oldS s3) (h.oldS s4))) rfl fun r3 w6 h hF=>zp2 rfl (qi (t:=10) hF rfl ?_ ?_))<;>intro hF
  ·refine X0 10 rfl ?_
   obtain rfl:=qb hF
   exact rG ⟨_,hK2,rfl,h⟩ rfl
  refine X2 18 0 0 h rfl ?_
  obtain rfl:=qb hF
  exact rG ⟨_,hK2,rfl,h⟩ rfl
 rintro e2 w7 ⟨b1,hF,rfl,h⟩
 subst hKF1
 refine qh rfl hF ?_ ?_<;>intro hF
 ·exact X0 4 rfl (rb h hF rfl)
 refine X0 6 rfl ?_
 obtain ⟨o1,hF,hK1⟩:=qc hF
 refine qm (rL (fun m e w'=>∃ (i1:Int),qeu b m i1=some o1∧e=[(1,.pointer (some ⟨bb1,0,none⟩)),(3,.int .i64 i1)]∧SH w w' [Ch.box bb1 (qaP b p1 p2 p3 p4 p5 k1 k2 k3 k4 k5) 51]) n ⟨_,hF,rfl,h⟩ rfl ?_)
 rintro m1 e1 w2 ⟨i1,hF,rfl,h⟩
 rcases m1 with _|m1
 ·cases hF
 refine X1 9 0 h rfl (qh rfl hF ?_ ?_)<;>intro hF
 ·refine X0 4 rfl (rA [] [0] h rfl fun w3 h=>M1 7 [0,1,2] 0 (h.pick [0] rfl) rfl ?_)
  obtain ⟨y1,hy1,hF,he1,b2,_,q1,cs2,hp1,hq1,hr1,hc3⟩:=s5.ix hF
  obtain ⟨p6,k6,p7,k7,p8,k8,p9,k9,rfl,s6,s7,s8,s9⟩:=qaK hr1
  refine Ae 3 15 hp1 hq1 he1 (h.pick [0] rfl) rfl (Al 4 31 0 hc3 (h.pick [0] rfl) rfl (M1 255 [5,6,7] 0 (h.pick [0] rfl) rfl (Ao 8 511 rfl (zcL h hF (qiF (qao _ (h.oldS s2) (h.oldS s3) (h.oldS s4))) rfl fun r1 w4 S1 p10 k10 h hF=>G0 1023 [9] (h.pick [1] rfl) rfl (Ao 10 2047 rfl (zcB h hF (qqv (qjT y1 (h.oldS s6) (h.oldS s7) (h.oldS s8) (h.oldS s9))) rfl fun r2 w5 h hF=>G0 4095 [11] (h.pick [1] rfl) rfl (Ad (qh rfl hF ?_ ?_))))))))<;>intro hF
  ·refine X0 4 rfl ?_
   obtain rfl:=qb hF;replace hF:=hK1
   exact rb h hF rfl
  refine X0 7 rfl ?_
  replace h:=h.pick [1] rfl
  exact rK ⟨_,hF,rfl,h⟩ rfl
 refine qu rfl ?_
 obtain rfl:=qb hF;replace hF:=hK1
 exact X0 4 rfl (rb h hF rfl)
def qaG (_:Nat) (x:Int) (low:Int) (high:Int):Option Bool :=
 bif decide (x ≥ low) then some (decide (x≤high)) else
 some false
theorem qav {x:Int} {low:Int} {high:Int}  {r:Bool} (hF:qaG n x low high=some r):RetV Tryz.prog 159 [.int .i64 x,.int .i64 low,.int .i64 high] w r:=by
 refine zV 15 Tryz.func159 rfl fun h=>X0 10 rfl (qi (t:=10) hF rfl ?_ ?_)<;>intro hF
 ·exact X0 9 rfl (rb h hF rfl)
 exact X0 6 rfl (rb h hF rfl)
def qh1 (_:Nat) (s cutset:ByteArray):Option ByteArray :=
 if s.size≤9223372036854775807∧cutset.size<4294967281∧cutset.data.toList.all (fun b=>decide (b.toNat<128))=true then some ⟨(Lib.trimS s.data.toList cutset.data.toList).toArray⟩ else none
theorem qpK {s cutset:ByteArray} {r:ByteArray} (hF:qh1 n s cutset=some r):RetV Tryz.prog 246 [.string s,.string cutset] w r:=by
 unfold qh1 at hF
 split at hF
 ·rename_i hh
  obtain rfl:=qb hF
  refine (Tryz.strings_Trim_any s cutset w hh.1 hh.2.1 hh.2.2).mono ?_
  rintro e w' ⟨rfl,hB⟩
  exact ⟨_,rfl,hB,[.string _],rfl,qyp _ _⟩
 cases hF
def qga (_:Nat) (s:ByteArray) (c:(IntK .u8)):Option Int :=
 some (Lib.indexByte s.data.toList c.val.toNat.toUInt8)
theorem qmK {s:ByteArray} {c:(IntK .u8)} {r:Int} (hF:qga n s c=some r):RetV Tryz.prog 247 [.string s,.int .u8 c.val] w r:=by
 obtain rfl:=qb hF
 refine (Tryz.strings_IndexByte s c.val w).mono ?_
 rintro e w' ⟨rfl,rfl⟩
 exact ⟨_,rfl,Below.refl _ _,[.int .i64 _],rfl,qvS _ _⟩
def qhL (n:Nat) (s:ByteArray):Option Bool :=
 (qaG n (s.size:Int) 1 8).bind fun r1 =>
 bif r1 then
  (qh1 n s (⟨#[97,98,99,100,101,102,103,104,105,106,107,108,109,110,111,112,113,114,115,116,117,118,119,120,121,122,48,49,50,51,52,53,54,55,56,57]⟩:ByteArray)).bind fun r2 =>
  bif (r2.toList==(⟨#[]⟩:ByteArray).toList) then
   (atS s 0).bind fun y1 =>
   (qga n (⟨#[97,98,99,100,101,102,103,104,105,106,107,108,109,110,111,112,113,114,115,116,117,118,119,120,121,122]⟩:ByteArray) (⟨y1⟩:IntK .u8)).bind fun r3 =>
   some (decide (r3 ≥ 0))
  else
   some false
 else
  some false
theorem qki {s:ByteArray}  {r:Bool} (hF:qhL n s=some r):RetV Tryz.prog 214 [.string s] w r:=by
 refine zV 17 Tryz.func214 rfl fun h=>X0 8 rfl (zcB h hF qav rfl fun r1 w1 h hF=>zp1 rfl (qi (t:=6) hF rfl ?_ ?_))<;>intro hF
 ·refine X0 3 rfl (zcS h hF qpK rfl fun r2 w2 h hF=>X0 4 rfl (qi (t:=11) hF rfl ?_ ?_))<;>intro hF
  ·refine X0 3 rfl ?_
   obtain ⟨y1,hx1,hF⟩:=qc hF
   have g1:=qmM hx1
   exact r_v (qmD qa g1 rfl rfl rfl rfl) rfl (X0 1 rfl (zcI h hF qmK rfl fun r3 w3 h hF=>X0 5 rfl (rb h hF rfl)))
  exact X0 7 rfl (rb h hF rfl)
 exact X0 12 rfl (rb h hF rfl)
def qbR (s:(List ByteArray)) (v:ByteArray):Nat→Int→Option (Flow Int Int)
 | 0,_=>none
 | n+1,i1 =>
  bif decide (i1<(s.length:Int)) then
   (idx s i1).bind fun y1 =>
   bif (v.toList==y1.toList) then some (.ret i1) else
   qbR s v n (W64 (i1+1))
  else
   some (.nxt i1)
def qe6 (n:Nat) (s:(List ByteArray)) (v:ByteArray):Option Int :=
 (qbR s v n 0).bind fun o=>match o with
 | .ret r=>some r
 | .nxt _ =>
  some (-1)
theorem qlO {s:(List ByteArray)} {v:ByteArray} (ha1:GoT.R w (old w) s cs1) {r:Int} (hF:qe6 n s v=some r):RetV Tryz.prog 296 [GoT.v (List ByteArray) cs1,.string v] w r:=by
 obtain ⟨p1,k1,rfl,s1⟩:=ha1
 refine zV 19 Tryz.func296 rfl fun h=>X0 11 rfl ?_
 obtain ⟨o1,hF,hK1⟩:=qc hF
 refine qm (rL (fun m e w'=>∃ (i1:Int),qbR s v m i1=some o1∧e=[(0,.slice p1 s.length k1),(1,.string v),(7,.int .i64 (s.length:Int)),(8,.int .i64 i1)]∧SH w w' []) n ⟨_,hF,rfl,h⟩ rfl ?_)
 rintro m1 e1 w1 ⟨i1,hF,rfl,h⟩
 rcases m1 with _|m1
 ·cases hF
 refine X0 5 rfl (qh rfl hF ?_ ?_)<;>intro hF
 ·refine X0 13 rfl ?_
  obtain ⟨y1,hy1,hF,he1,b1,_,q1,cs2,hp1,hq1,rfl,hc2⟩:=s1.ix hF
  refine zxe hp1 hq1 he1 rfl (zc 0 (hc2.below h.below) rfl (X0 2 rfl (qh rfl hF ?_ ?_)))<;>intro hF
  ·refine X0 5 rfl ?_
   obtain rfl:=qb hF;replace hF:=hK1
   exact ri h hF rfl
  exact X0 6 rfl (rK ⟨_,hF,rfl,h⟩ rfl)
 refine qu rfl ?_
 obtain rfl:=qb hF;replace hF:=hK1
 exact X0 4 rfl (ri h hF rfl)
def qdS (n:Nat) (s:(List ByteArray)) (v:ByteArray):Option Bool :=
 (qe6 n s v).bind fun r1 =>
 some (decide (r1 ≥ 0))
theorem qkx {s:(List ByteArray)} {v:ByteArray} (ha1:GoT.R w (old w) s cs1) {r:Bool} (hF:qdS n s v=some r):RetV Tryz.prog 283 [GoT.v (List ByteArray) cs1,.string v] w r:=by
 obtain ⟨p1,k1,rfl,s1⟩:=ha1
 exact zV 9 Tryz.func283 rfl fun h=>X0 8 rfl (zcI h hF (qlO ⟨_,_,rfl,(h.oldS s1)⟩) rfl fun r1 w1 h hF=>X0 3 rfl (rb h hF rfl))
def qd9 (list:(List ByteArray)):Nat→Int→Option (Flow Bool Int)
 | 0,_=>none
 | n+1,i1 =>
  bif decide (i1<(list.length:Int)) then
   (idx list i1).bind fun y1 =>
   (qhL n y1).bind fun r1 =>
   bif (!r1) then some (.ret false) else
   (subS list 0 i1).bind fun x1 =>
   (qdS n x1 y1).bind fun r2 =>
   bif r2 then some (.ret false) else
   qd9 list n (W64 (i1+1))
  else
   some (.nxt i1)
def qdZ (n:Nat) (list:(List ByteArray)):Option Bool :=
 (qd9 list n 0).bind fun o=>match o with
 | .ret r=>some r
 | .nxt _ =>
  some true
theorem qfd {list:(List ByteArray)} (ha1:GoT.R w (old w) list cs1) {r:Bool} (hF:qdZ n list=some r):RetV Tryz.prog 265 [GoT.v (List ByteArray) cs1] w r:=by
 obtain ⟨p1,k1,rfl,s1⟩:=ha1
 refine zV 23 Tryz.func265 rfl fun h=>X0 11 rfl ?_
 obtain ⟨o1,hF,hK1⟩:=qc hF
 refine qm (rL (fun m e w'=>∃ (i1:Int),qd9 list m i1=some o1∧e=[(0,.slice p1 list.length k1),(5,.slice p1 list.length k1),(6,.int .i64 (list.length:Int)),(7,.int .i64 i1)]∧SH w w' []) n ⟨_,hF,rfl,h⟩ rfl ?_)
 rintro m1 e1 w1 ⟨i1,hF,rfl,h⟩
 rcases m1 with _|m1
 ·cases hF
 refine X0 5 rfl (qh rfl hF ?_ ?_)<;>intro hF
 ·refine X0 6 rfl ?_
  obtain ⟨y1,hy1,hF,he1,b1,_,q1,cs2,hp1,hq1,rfl,hc2⟩:=s1.ix hF
  refine zxe hp1 hq1 he1 rfl (zc 0 (hc2.below h.below) rfl (X0 6 rfl (zcB h hF qki rfl fun r1 w2 h hF=>zp2 rfl (qi (t:=15) hF rfl ?_ ?_))))<;>intro hF
  ·refine X0 7 rfl (qbU rfl rfl (X0 4 rfl ?_))
   obtain rfl:=qb hF;replace hF:=hK1
   exact rb h hF rfl
  refine X0 5 rfl ?_
  obtain ⟨x1,hx1,hF⟩:=qc hF
  obtain ⟨p2,k2,hp2,hk1,hl1,g1⟩:=qwB (h.oldS s1) hx1
  refine r_v (qs7 qa rfl rfl rfl (qwt g1 rfl) hp2 hk1 hl1 rfl rfl rfl rfl) rfl ?_
  have s2:=qvV s1 hx1 hp2 hk1
  refine X0 3 rfl (zcB h hF (qkx ⟨_,_,rfl,(h.oldS s2)⟩) rfl fun r2 w3 h hF=>X0 2 rfl (qh rfl hF ?_ ?_))<;>intro hF
  ·refine X0 4 rfl ?_
   obtain rfl:=qb hF;replace hF:=hK1
   exact rb h hF rfl
  exact X0 6 rfl (rK ⟨_,hF,rfl,h⟩ rfl)
 refine qu rfl ?_
 obtain rfl:=qb hF;replace hF:=hK1
 exact X0 4 rfl (rb h hF rfl)
def qcn (_:Nat) (list:(List qar)):Option Int :=
 some (list.length:Int)
theorem qhK {list:(List qar)} (ha1:GoT.R w (old w) list cs1) {r:Int} (hF:qcn n list=some r):RetV Tryz.prog 290 [GoT.v (List qar) cs1] w r:=by
 obtain ⟨p1,k1,rfl,s1⟩:=ha1
 exact zV 5 Tryz.func290 rfl fun h=>X0 10 rfl (ri h hF rfl)
def qcK (list:(List qar)):Nat→(List ByteArray)→Int→Option (Flow Bool ((List ByteArray) × Int))
 | 0,_,_=>none
 | n+1,x1,i1 =>
  bif decide (i1<(list.length:Int)) then
   (idx list i1).bind fun y1 =>
   (appS x1 ([y1.Bb]:List ByteArray)).bind fun x2 =>
   bif (i1==(W64 ((list.length:Int)-1))) then
    bif (y1.Bv != 2) then some (.ret false) else
    bif (y1.Bt != 0) then some (.ret false) else
    bif y1.Bq then some (.ret false) else
    qcK list n x2 (W64 (i1+1))
   else
    bif (y1.Bv != 1) then some (.ret false) else
    (qaG n y1.Bt 0 500).bind fun r1 =>
    bif (!r1) then some (.ret false) else
    qcK list n x2 (W64 (i1+1))
  else
   some (.nxt (x1,i1))
def qjR (n:Nat) (list:(List qar)):Option Bool :=
 (qcK list n ([]:List ByteArray) 0).bind fun o=>match o with
 | .ret r=>some r
 | .nxt (x1,_) =>
  (qcn n list).bind fun r2 =>
  (qaG n r2 2 5).bind fun r3 =>
  bif r3 then
   (qdZ n x1).bind fun r4 =>
   some r4
  else
   some false
theorem qpD {list:(List qar)} (ha1:GoT.R w (old w) list cs1) {r:Bool} (hF:qjR n list=some r):RetV Tryz.prog 280 [GoT.v (List qar) cs1] w r:=by
 obtain ⟨p1,k1,rfl,s1⟩:=ha1
 refine zV 52 Tryz.func280 rfl fun h=>X0 15 rfl ?_
 replace h:=h.nil (α:=ByteArray)
 obtain ⟨o1,hF,hK1⟩:=qc hF
 refine qm (rL (fun m e w'=>∃ (S1:Nat→Prop) (p2:Option Addr) (ln1:Nat) (k2:Nat) (x1:(List ByteArray)) (i1:Int),qcK list m x1 i1=some o1∧e=[(0,.slice p1 list.length k1),(3,.slice p2 ln1 k2),(6,.slice p1 list.length k1),(7,.int .i64 (list.length:Int)),(8,.int .i64 i1)]∧SH w w' [Ch.own S1 (x1:List ByteArray) [.slice p2 ln1 k2]]) n ⟨_,_,_,_,_,_,hF,rfl,h⟩ rfl ?_)
 rintro m1 e1 w1 ⟨S1,p2,ln1,k2,x1,i1,hF,rfl,h⟩
 obtain rfl:=(h.sl 0 rfl).2
 rcases m1 with _|m1
 ·cases hF
 refine X0 5 rfl (qh rfl hF ?_ ?_)<;>intro hF
 ·refine X0 6 rfl ?_
  obtain ⟨y1,hy1,hF,he1,b1,_,q1,cs2,hp1,hq1,hr1,hc2⟩:=s1.ix hF
  obtain rfl:=qbr hr1
  refine zxe hp1 hq1 he1 rfl (zc 0 (hc2.below h.below) rfl (qj qa h rfl rfl rfl fun w2 bb1 h=>zp1 rfl (zs 0 h rfl fun w3 h=>X1 6 0 h rfl (qK qa [.tmp 15] _ ([y1.Bb]:List ByteArray) h rfl rfl rfl rfl rfl rfl rfl rfl rfl ⟨rfl,trivial⟩ rfl fun w4 p3 S2 h=>?_))))
  obtain ⟨x2,hx1,hF⟩:=qc hF
  obtain ⟨g1,hx1⟩:=qay hx1
  refine qcw qa 2 h rfl (h.sl 0 rfl).1 (h.sl 0 rfl).2 rfl rfl rfl rfl rfl rfl rfl rfl rfl g1 hx1 rfl fun w5 p4 k3 S3 h=>X0 10 rfl (qh rfl hF ?_ ?_)<;>intro hF
  ·refine X1 6 1 h rfl (qi (t:=26) hF rfl ?_ ?_)<;>intro hF
   ·refine X0 9 rfl (qbU rfl rfl (X0 4 rfl ?_))
    obtain rfl:=qb hF;replace hF:=hK1
    exact rb h hF rfl
   refine X1 8 1 h rfl (qi (t:=31) hF rfl ?_ ?_)<;>intro hF
   ·refine X0 4 rfl (qbU rfl rfl (X0 4 rfl ?_))
    obtain rfl:=qb hF;replace hF:=hK1
    exact rb h hF rfl
   refine X1 6 1 h rfl (qh rfl hF ?_ ?_)<;>intro hF
   ·refine X0 4 rfl ?_
    obtain rfl:=qb hF;replace hF:=hK1
    exact rb h hF rfl
   refine X0 6 rfl ?_
   replace h:=h.pick [2] rfl
   exact rK ⟨_,_,_,_,_,_,hF,rfl,h⟩ rfl
  refine X1 6 1 h rfl (qi (t:=38) hF rfl ?_ ?_)<;>intro hF
  ·refine X0 6 rfl (qbU rfl rfl (X0 4 rfl ?_))
   obtain rfl:=qb hF;replace hF:=hK1
   exact rb h hF rfl
  refine X1 5 1 h rfl (zcB h hF qav rfl fun r1 w6 h hF=>X0 4 rfl (qh rfl hF ?_ ?_))<;>intro hF
  ·refine X0 4 rfl ?_
   obtain rfl:=qb hF;replace hF:=hK1
   exact rb h hF rfl
  refine X0 6 rfl ?_
  replace h:=h.pick [2] rfl
  exact rK ⟨_,_,_,_,_,_,hF,rfl,h⟩ rfl
 refine qu rfl ?_
 obtain rfl:=qb hF;replace hF:=hK1
 refine X0 3 rfl (zcI h hF (qhK ⟨_,_,rfl,(h.oldS s1)⟩) rfl fun r2 w7 h hF=>zcB h hF qav rfl fun r3 w8 h hF=>zp1 rfl (qi (t:=48) hF rfl ?_ ?_))<;>intro hF
 ·exact X0 3 rfl (zcB h hF (qfd (h.own 0 rfl)) rfl fun r4 w9 h hF=>X0 3 rfl (rb h hF rfl))
 exact X0 5 rfl (rb h hF rfl)
def qd0 (n:Nat) (c:qB):Option Int :=
 (qcn n c.Be).bind fun r1 =>
 some (W64 (r1-1))
theorem qg6 {c:qB} (ha1:GoT.R w (old w) c cs1) {r:Int} (hF:qd0 n c=some r):RetV Tryz.prog 294 [GoT.v qB cs1] w r:=by
 obtain ⟨p1,k1,p2,k2,p3,k3,rfl,s1,s2,s3⟩:=qac ha1
 exact zV 7 Tryz.func294 rfl fun h=>zSR (qv h rfl rfl fun w1 bb1 h=>X1 6 0 h rfl (zcI h hF (qhK ⟨_,_,rfl,(h.oldS s1)⟩) rfl fun r1 w2 h hF=>X0 3 rfl (ri h hF rfl)))
def qjJ (_:Nat) (kind:Int):Option Bool :=
 bif (kind==4) then some true else
 some (kind==5)
theorem qpu {kind:Int}  {r:Bool} (hF:qjJ n kind=some r):RetV Tryz.prog 301 [.int .i64 kind] w r:=by
 refine zV 9 Tryz.func301 rfl fun h=>X0 9 rfl (qi (t:=5) hF rfl ?_ ?_)<;>intro hF
 ·exact X0 5 rfl (rb h hF rfl)
 exact X0 7 rfl (rb h hF rfl)
def qgP (n:Nat) (a_n:Int) (v0:Int) (v1:Int):Option Bool :=
 (qaG n a_n v0 v1).bind fun r1 =>
 some (!r1)
theorem qnm {a_n:Int} {v0:Int} {v1:Int} {p1:Option Addr} (ha1:GoT.R w (old w) (some v0) [.pointer p1]) {p2:Option Addr} (ha2:GoT.R w (old w) (some v1) [.pointer p2]) {r:Bool} (hF:qgP n a_n v0 v1=some r):RetV Tryz.prog 158 [.int .i64 a_n,.pointer p1,.pointer p2] w r:=by
 obtain ⟨b1,o_1,cs1,rfl,-,hr1,hc1⟩:=PtR.get ha1 rfl
 obtain rfl:=hr1
 obtain ⟨b2,o_2,cs2,rfl,-,hr2,hc2⟩:=PtR.get ha2 rfl
 obtain rfl:=hr2
 exact zV 10 Tryz.func158 rfl fun h=>X0 7 rfl (zc 0 (hc1.below h.below) rfl (zc 0 (hc2.below h.below) rfl (zcB h hF qav rfl fun r1 w1 h hF=>X0 3 rfl (rb h hF rfl))))
def qab (s:(List Int)) (f_0:Int) (f_1:Int):Nat→Int→Option (Flow Int Int)
 | 0,_=>none
 | n+1,i1 =>
  bif decide (i1<(s.length:Int)) then
   (idx s i1).bind fun y1 =>
   (qgP n y1 f_0 f_1).bind fun r1 =>
   bif r1 then some (.ret i1) else
   qab s f_0 f_1 n (W64 (i1+1))
  else
   some (.nxt i1)
def qaQ (n:Nat) (s:(List Int)) (f_0:Int) (f_1:Int):Option Int :=
 (qab s f_0 f_1 n 0).bind fun o=>match o with
 | .ret r=>some r
 | .nxt _ =>
  some (-1)
theorem qfv {s:(List Int)} {f_0:Int} {f_1:Int} (ha1:GoT.R w (old w) s cs1) {p2:Option Addr} (ha2:GoT.R w (old w) (some f_0) [.pointer p2]) {p3:Option Addr} (ha3:GoT.R w (old w) (some f_1) [.pointer p3]) {r:Int} (hF:qaQ n s f_0 f_1=some r):RetV Tryz.prog 162 [GoT.v (List Int) cs1,.func (.func 158) #[] #[.pointer p2,.pointer p3]] w r:=by
 obtain ⟨p1,k1,rfl,s1⟩:=ha1
 obtain ⟨b1,o_1,cs2,rfl,-,hr1,hc1⟩:=PtR.get ha2 rfl
 obtain rfl:=hr1
 obtain ⟨b2,o_2,cs3,rfl,-,hr2,hc2⟩:=PtR.get ha3 rfl
 obtain rfl:=hr2
 refine zV 19 Tryz.func162 rfl fun h=>X0 11 rfl ?_
 obtain ⟨o1,hF,hK1⟩:=qc hF
 refine qm (rL (fun m e w'=>∃ (i1:Int),qab s f_0 f_1 m i1=some o1∧e=[(0,.slice p1 s.length k1),(1,.func (.func 158) #[] #[.pointer (some ⟨b1,o_1,none⟩),.pointer (some ⟨b2,o_2,none⟩)]),(7,.int .i64 (s.length:Int)),(8,.int .i64 i1)]∧SH w w' []) n ⟨_,hF,rfl,h⟩ rfl ?_)
 rintro m1 e1 w1 ⟨i1,hF,rfl,h⟩
 rcases m1 with _|m1
 ·cases hF
 refine X0 5 rfl (qh rfl hF ?_ ?_)<;>intro hF
 ·refine X0 13 rfl ?_
  obtain ⟨y1,hy1,hF,he1,b3,_,q1,cs4,hp1,hq1,rfl,hc4⟩:=s1.ix hF
  refine zxe hp1 hq1 he1 rfl (zc 0 (hc4.below h.below) rfl (zcB h hF (qnm (h.old ha2) (h.old ha3)) rfl fun r1 w2 h hF=>qcr (qh rfl hF ?_ ?_)))<;>intro hF
  ·refine X0 5 rfl ?_
   obtain rfl:=qb hF;replace hF:=hK1
   exact ri h hF rfl
  exact X0 6 rfl (rK ⟨_,hF,rfl,h⟩ rfl)
 refine qu rfl ?_
 obtain rfl:=qb hF;replace hF:=hK1
 exact X0 4 rfl (ri h hF rfl)
def qbt (n:Nat) (s:(List Int)) (f_0:Int) (f_1:Int):Option Bool :=
 (qaQ n s f_0 f_1).bind fun r1 =>
 some (decide (r1 ≥ 0))
theorem qe5 {s:(List Int)} {f_0:Int} {f_1:Int} (ha1:GoT.R w (old w) s cs1) {p2:Option Addr} (ha2:GoT.R w (old w) (some f_0) [.pointer p2]) {p3:Option Addr} (ha3:GoT.R w (old w) (some f_1) [.pointer p3]) {r:Bool} (hF:qbt n s f_0 f_1=some r):RetV Tryz.prog 110 [GoT.v (List Int) cs1,.func (.func 158) #[] #[.pointer p2,.pointer p3]] w r:=by
 obtain ⟨p1,k1,rfl,s1⟩:=ha1
 obtain ⟨b1,o_1,cs2,rfl,-,hr1,hc1⟩:=PtR.get ha2 rfl
 obtain rfl:=hr1
 obtain ⟨b2,o_2,cs3,rfl,-,hr2,hc2⟩:=PtR.get ha3 rfl
 obtain rfl:=hr2
 exact zV 9 Tryz.func110 rfl fun h=>X0 8 rfl (zcI h hF (qfv ⟨_,_,rfl,(h.oldS s1)⟩ (h.old ha2) (h.old ha3)) rfl fun r1 w1 h hF=>X0 3 rfl (rb h hF rfl))
def qbK (n:Nat) (list:(List Int)) (low:Int) (high:Int):Option Bool :=
 (qbt n list low high).bind fun r1 =>
 some (!r1)
theorem qb4 {list:(List Int)} {low:Int} {high:Int} (ha1:GoT.R w (old w) list cs1) {r:Bool} (hF:qbK n list low high=some r):RetV Tryz.prog 106 [GoT.v (List Int) cs1,.int .i64 low,.int .i64 high] w r:=by
 obtain ⟨p1,k1,rfl,s1⟩:=ha1
 exact zV 11 Tryz.func106 rfl fun h=>zSR (qv h rfl rfl fun w1 bb1 h=>qv h rfl rfl fun w2 bb2 h=>X0 6 rfl (zcB h hF (qe5 ⟨_,_,rfl,(h.oldS s1)⟩ (qgy (x:=low) 1 h rfl rfl) (qgy (x:=high) 0 h rfl rfl)) rfl fun r1 w3 h hF=>X0 3 rfl (rb h hF rfl)))
def qbm (_:Nat) (list:(List Int)):Option Int :=
 some (list.length:Int)
theorem qco {list:(List Int)} (ha1:GoT.R w (old w) list cs1) {r:Int} (hF:qbm n list=some r):RetV Tryz.prog 217 [GoT.v (List Int) cs1] w r:=by
 obtain ⟨p1,k1,rfl,s1⟩:=ha1
 exact zV 5 Tryz.func217 rfl fun h=>X0 10 rfl (ri h hF rfl)
def qbq (list:(List Int)):Nat→Int→Option (Flow Bool Int)
 | 0,_=>none
 | n+1,i1 =>
  bif decide (i1<(list.length:Int)) then
   (idx list (W64 (i1-1))).bind fun y1 =>
   (idx list i1).bind fun y2 =>
   bif decide (y1 ≥ y2) then some (.ret false) else
   qbq list n (W64 (i1+1))
  else
   some (.nxt i1)
def qeI (n:Nat) (list:(List Int)):Option Bool :=
 (qbq list n 1).bind fun o=>match o with
 | .ret r=>some r
 | .nxt _ =>
  some true
theorem qjd {list:(List Int)} (ha1:GoT.R w (old w) list cs1) {r:Bool} (hF:qeI n list=some r):RetV Tryz.prog 223 [GoT.v (List Int) cs1] w r:=by
 obtain ⟨p1,k1,rfl,s1⟩:=ha1
 refine zV 20 Tryz.func223 rfl fun h=>X0 9 rfl ?_
 obtain ⟨o1,hF,hK1⟩:=qc hF
 refine qm (rL (fun m e w'=>∃ (i1:Int),qbq list m i1=some o1∧e=[(0,.slice p1 list.length k1),(3,.int .i64 i1)]∧SH w w' []) n ⟨_,hF,rfl,h⟩ rfl ?_)
 rintro m1 e1 w1 ⟨i1,hF,rfl,h⟩
 rcases m1 with _|m1
 ·cases hF
 refine X0 8 rfl (qh rfl hF ?_ ?_)<;>intro hF
 ·refine X0 4 rfl (rD (zd3 rfl ?_))
  obtain ⟨y1,hy1,hF,he1,b1,_,q1,cs2,hp1,hq1,rfl,hc2⟩:=s1.ix hF
  refine zdxe hp1 hq1 he1 rfl (zdc 0 (hc2.below h.below) rfl (zd2 rfl ?_))
  obtain ⟨y2,hy2,hF,he2,b2,_,q2,cs3,hp2,hq2,rfl,hc3⟩:=s1.ix hF
  refine zdxe hp2 hq2 he2 rfl (zdc 0 (hc3.below h.below) rfl (zd1 rfl (dN h fun w2 h=>qh rfl hF ?_ ?_)))<;>intro hF
  ·refine X0 4 rfl ?_
   obtain rfl:=qb hF;replace hF:=hK1
   exact rb h hF rfl
  exact X0 7 rfl (rK ⟨_,hF,rfl,h⟩ rfl)
 refine qu rfl ?_
 obtain rfl:=qb hF;replace hF:=hK1
 exact X0 4 rfl (rb h hF rfl)
def qi5 (n:Nat) (list:(List Int)):Option Bool :=
 (qbm n list).bind fun r1 =>
 (qaG n r1 1 4).bind fun r2 =>
 bif r2 then
  (qbK n list 0 100000).bind fun r3 =>
  bif r3 then
   (qeI n list).bind fun r4 =>
   some r4
  else
   some false
 else
  some false
theorem qmV {list:(List Int)} (ha1:GoT.R w (old w) list cs1) {r:Bool} (hF:qi5 n list=some r):RetV Tryz.prog 318 [GoT.v (List Int) cs1] w r:=by
 obtain ⟨p1,k1,rfl,s1⟩:=ha1
 refine zV 14 Tryz.func318 rfl fun h=>X0 7 rfl (zcI h hF (qco ⟨_,_,rfl,(h.oldS s1)⟩) rfl fun r1 w1 h hF=>zcB h hF qav rfl fun r2 w2 h hF=>zp1 rfl (qi (t:=6) hF rfl ?_ ?_))<;>intro hF
 ·refine X0 3 rfl (zcB h hF (qb4 ⟨_,_,rfl,(h.oldS s1)⟩) rfl fun r3 w3 h hF=>zp2 rfl (qi (t:=10) hF rfl ?_ ?_))<;>intro hF
  ·exact X0 3 rfl (zcB h hF (qjd ⟨_,_,rfl,(h.oldS s1)⟩) rfl fun r4 w4 h hF=>X0 3 rfl (rb h hF rfl))
  exact X0 5 rfl (rb h hF rfl)
 exact X0 9 rfl (rb h hF rfl)
def qjA (n:Nat) (t:qx):Option Bool :=
 (qi5 n t.Bm).bind fun r1 =>
 bif r1 then
  (qi5 n t.Bj).bind fun r2 =>
  bif r2 then
   bif ((t.Bh.length:Int)==(W64 ((t.Bm.length:Int)*(t.Bj.length:Int)))) then
    (qbK n t.Bh (-1000000) 1000000).bind fun r3 =>
    some r3
   else
    some false
  else
   some false
 else
  some false
theorem qpM {t:qx} (ha1:GoT.R w (old w) t cs1) {r:Bool} (hF:qjA n t=some r):RetV Tryz.prog 313 [GoT.v qx cs1] w r:=by
 obtain ⟨p1,k1,p2,k2,p3,k3,rfl,s1,s2,s3⟩:=qaE ha1
 refine zV 29 Tryz.func313 rfl fun h=>zSR (qv h rfl rfl fun w1 bb1 h=>X1 6 0 h rfl (zcB h hF (qmV ⟨_,_,rfl,(h.oldS s1)⟩) rfl fun r1 w2 h hF=>zp1 rfl (qi (t:=6) hF rfl ?_ ?_)))<;>intro hF
 ·refine X1 5 0 h rfl (zcB h hF (qmV ⟨_,_,rfl,(h.oldS s2)⟩) rfl fun r2 w3 h hF=>zp2 rfl (qi (t:=11) hF rfl ?_ ?_))<;>intro hF
  ·refine X3 24 0 0 0 h rfl (qi (t:=24) hF rfl ?_ ?_)<;>intro hF
   ·exact X1 5 0 h rfl (zcB h hF (qb4 ⟨_,_,rfl,(h.oldS s3)⟩) rfl fun r3 w4 h hF=>X0 3 rfl (rb h hF rfl))
   exact X0 6 rfl (rb h hF rfl)
  exact X0 19 rfl (rb h hF rfl)
 exact X0 24 rfl (rb h hF rfl)
def qcJ (x:(List Int)):Nat→Int→Int→Option (Int × Int)
 | 0,_,_=>none
 | n+1,i1,i2 =>
  bif decide (i2<(x.length:Int)) then
   (idx x i2).bind fun y2 =>
   qcJ x n (if y2<i1 then y2 else i1) (W64 (i2+1))
  else
   some (i1,i2)
def qgH (n:Nat) (x:(List Int)):Option Int :=
 (
  bif decide ((x.length:Int)<1) then none else
  some ()).bind fun _ =>
 (idx x 0).bind fun y1 =>
 (qcJ x n y1 1).bind fun o=>match o with
 | (i1,_) =>
  some i1
theorem qnj {x:(List Int)} (ha1:GoT.R w (old w) x cs1) {r:Int} (hF:qgH n x=some r):RetV Tryz.prog 314 [GoT.v (List Int) cs1] w r:=by
 obtain ⟨p1,k1,rfl,s1⟩:=ha1
 refine zV 25 Tryz.func314 rfl fun h=>X0 11 rfl ?_
 obtain ⟨KF1,hKF1,o2,hF,hK2⟩:=bindE hF
 refine qbl (fun e w'=>KF1 ()=some r∧e=[(0,.slice p1 x.length k1)]∧SH w w' []) ?_ ?_
 ·refine qh rfl hF ?_ ?_<;>intro hF
  ·refine qlv ?_
   cases hF
  refine qhC ?_
  obtain rfl:=qb hF
  exact rG ⟨hK2,rfl,h⟩ rfl
 rintro e2 w2 ⟨hF,rfl,h⟩
 subst hKF1
 refine X0 3 rfl ?_
 obtain ⟨y1,hy1,hF,he1,b1,_,q1,cs2,hp1,hq1,rfl,hc1⟩:=s1.ix hF
 refine zxe hp1 hq1 he1 rfl (zc 0 (hc1.below h.below) rfl (X0 7 rfl ?_))
 obtain ⟨o1,hF,hK1⟩:=qc hF
 refine qm (rL (fun m e w'=>∃ (i1:Int) (i2:Int),qcJ x m i1 i2=some o1∧e=[(0,.slice p1 x.length k1),(3,.int .i64 i1),(4,.int .i64 i2)]∧SH w w' []) n ⟨_,_,hF,rfl,h⟩ rfl ?_)
 rintro m1 e1 w1 ⟨i1,i2,hF,rfl,h⟩
 rcases m1 with _|m1
 ·cases hF
 refine X0 8 rfl (qh rfl hF ?_ ?_)<;>intro hF
 ·refine X0 7 rfl ?_
  obtain ⟨y2,hy2,hF,he2,b2,_,q2,cs3,hp2,hq2,rfl,hc3⟩:=s1.ix hF
  exact zxe hp2 hq2 he2 rfl (zc 0 (hc3.below h.below) rfl (X0 9 rfl (rK ⟨_,_,hF,rfl,h⟩ rfl)))
 refine qu rfl ?_
 obtain rfl:=qb hF;replace hF:=hK1
 exact X0 5 rfl (ri h hF rfl)
def qgO (n:Nat) (t:qx) (v0:Bool):Option Bool :=
 (qjA n t).bind fun r1 =>
 bif (!r1) then some true else
 bif v0 then
  (qgH n t.Bh).bind fun r2 =>
  some (decide (r2<0))
 else
  some false
theorem qnu {t:qx} {v0:Bool} (ha1:GoT.R w (old w) t cs1) {p4:Option Addr} (ha2:GoT.R w (old w) (some v0) [.pointer p4]) {r:Bool} (hF:qgO n t v0=some r):RetV Tryz.prog 312 [GoT.v qx cs1,.pointer p4] w r:=by
 obtain ⟨p1,k1,p2,k2,p3,k3,rfl,s1,s2,s3⟩:=qaE ha1
 obtain ⟨b1,o_1,cs2,rfl,-,hr1,hc1⟩:=PtR.get ha2 rfl
 obtain rfl:=hr1
 refine zV 16 Tryz.func312 rfl fun h=>zSR (qv h rfl rfl fun w1 bb1 h=>X1 5 0 h rfl (zcB h hF (qpM (h.old ha1)) rfl fun r1 w2 h hF=>zp2 rfl (qi (t:=7) hF rfl ?_ ?_)))<;>intro hF
 ·exact X0 10 rfl (rb h hF rfl)
 refine X0 1 rfl (zc 0 (hc1.below h.below) rfl (X0 2 rfl (qi (t:=9) hF rfl ?_ ?_)))<;>intro hF
 ·exact X1 5 0 h rfl (zcI h hF (qnj ⟨_,_,rfl,(h.oldS s3)⟩) rfl fun r2 w3 h hF=>X0 7 rfl (rb h hF rfl))
 exact X0 9 rfl (rb h hF rfl)
def qM (s:(List qx)) (f_0:Bool):Nat→Int→Option (Flow Int Int)
 | 0,_=>none
 | n+1,i1 =>
  bif decide (i1<(s.length:Int)) then
   (idx s i1).bind fun y1 =>
   (qgO n y1 f_0).bind fun r1 =>
   bif r1 then some (.ret i1) else
   qM s f_0 n (W64 (i1+1))
  else
   some (.nxt i1)
def qaB (n:Nat) (s:(List qx)) (f_0:Bool):Option Int :=
 (qM s f_0 n 0).bind fun o=>match o with
 | .ret r=>some r
 | .nxt _ =>
  some (-1)
theorem qeO {s:(List qx)} {f_0:Bool} (ha1:GoT.R w (old w) s cs1) {p2:Option Addr} (ha2:GoT.R w (old w) (some f_0) [.pointer p2]) {r:Int} (hF:qaB n s f_0=some r):RetV Tryz.prog 317 [GoT.v (List qx) cs1,.func (.func 312) #[] #[.pointer p2]] w r:=by
 obtain ⟨p1,k1,rfl,s1⟩:=ha1
 obtain ⟨b1,o_1,cs2,rfl,-,hr1,hc1⟩:=PtR.get ha2 rfl
 obtain rfl:=hr1
 refine zV 19 Tryz.func317 rfl fun h=>X0 11 rfl ?_
 obtain ⟨o1,hF,hK1⟩:=qc hF
 refine qm (rL (fun m e w'=>∃ (i1:Int),qM s f_0 m i1=some o1∧e=[(0,.slice p1 s.length k1),(1,.func (.func 312) #[] #[.pointer (some ⟨b1,o_1,none⟩)]),(7,.int .i64 (s.length:Int)),(8,.int .i64 i1)]∧SH w w' []) n ⟨_,hF,rfl,h⟩ rfl ?_)
 rintro m1 e1 w1 ⟨i1,hF,rfl,h⟩
 rcases m1 with _|m1
 ·cases hF
 refine X0 5 rfl (qh rfl hF ?_ ?_)<;>intro hF
 ·refine X0 13 rfl ?_
  obtain ⟨y1,hy1,hF,he1,b2,_,q1,cs3,hp1,hq1,hr2,hc3⟩:=s1.ix hF
  obtain ⟨p3,k2,p4,k3,p5,k4,rfl,s2,s3,s4⟩:=qaE hr2
  refine zxe hp1 hq1 he1 rfl (zc 0 (hc3.below h.below) rfl (zcB h hF (qnu (qeZ y1 (h.oldS s2) (h.oldS s3) (h.oldS s4)) (h.old ha2)) rfl fun r1 w2 h hF=>qcr (qh rfl hF ?_ ?_)))<;>intro hF
  ·refine X0 5 rfl ?_
   obtain rfl:=qb hF;replace hF:=hK1
   exact ri h hF rfl
  exact X0 6 rfl (rK ⟨_,hF,rfl,h⟩ rfl)
 refine qu rfl ?_
 obtain rfl:=qb hF;replace hF:=hK1
 exact X0 4 rfl (ri h hF rfl)
def qaZ (n:Nat) (s:(List qx)) (f_0:Bool):Option Bool :=
 (qaB n s f_0).bind fun r1 =>
 some (decide (r1 ≥ 0))
theorem qel {s:(List qx)} {f_0:Bool} (ha1:GoT.R w (old w) s cs1) {p2:Option Addr} (ha2:GoT.R w (old w) (some f_0) [.pointer p2]) {r:Bool} (hF:qaZ n s f_0=some r):RetV Tryz.prog 311 [GoT.v (List qx) cs1,.func (.func 312) #[] #[.pointer p2]] w r:=by
 obtain ⟨p1,k1,rfl,s1⟩:=ha1
 obtain ⟨b1,o_1,cs2,rfl,-,hr1,hc1⟩:=PtR.get ha2 rfl
 obtain rfl:=hr1
 exact zV 9 Tryz.func311 rfl fun h=>X0 8 rfl (zcI h hF (qeO ⟨_,_,rfl,(h.oldS s1)⟩ (h.old ha2)) rfl fun r1 w1 h hF=>X0 3 rfl (rb h hF rfl))
def qfr (n:Nat) (list:(List qx)) (positive:Bool):Option Bool :=
 bif ((list.length:Int)==2) then
  (qaZ n list positive).bind fun r1 =>
  some (!r1)
 else
  some false
theorem qih {list:(List qx)} {positive:Bool} (ha1:GoT.R w (old w) list cs1) {r:Bool} (hF:qfr n list positive=some r):RetV Tryz.prog 302 [GoT.v (List qx) cs1,.bool positive] w r:=by
 obtain ⟨p1,k1,rfl,s1⟩:=ha1
 refine zV 14 Tryz.func302 rfl fun h=>zSR (qv h rfl rfl fun w1 bb1 h=>X0 8 rfl (qi (t:=8) hF rfl ?_ ?_))<;>intro hF
 ·exact X0 5 rfl (zcB h hF (qel ⟨_,_,rfl,(h.oldS s1)⟩ (qgy (x:=positive) 0 h rfl rfl)) rfl fun r1 w2 h hF=>X0 5 rfl (rb h hF rfl))
 exact X0 7 rfl (rb h hF rfl)
def qip (_:Nat) (p:qar):Option Bool :=
 some p.Bq
theorem qmu {p:qar} (ha1:GoT.R w (old w) p cs1) {r:Bool} (hF:qip n p=some r):RetV Tryz.prog 316 [GoT.v qar cs1] w r:=by
 obtain rfl:=qbr ha1
 exact zV 5 Tryz.func316 rfl fun h=>zSR (qv h rfl rfl fun w1 bb1 h=>X1 8 0 h rfl (rb h hF rfl))
def qT (s:(List qar)):Nat→Int→Option (Flow Int Int)
 | 0,_=>none
 | n+1,i1 =>
  bif decide (i1<(s.length:Int)) then
   (idx s i1).bind fun y1 =>
   (qip n y1).bind fun r1 =>
   bif r1 then some (.ret i1) else
   qT s n (W64 (i1+1))
  else
   some (.nxt i1)
def qbo (n:Nat) (s:(List qar)):Option Int :=
 (qT s n 0).bind fun o=>match o with
 | .ret r=>some r
 | .nxt _ =>
  some (-1)
theorem qe3 {s:(List qar)} (ha1:GoT.R w (old w) s cs1) {r:Int} (hF:qbo n s=some r):RetV Tryz.prog 315 [GoT.v (List qar) cs1,.func (.func 316) #[] #[]] w r:=by
 obtain ⟨p1,k1,rfl,s1⟩:=ha1
 refine zV 19 Tryz.func315 rfl fun h=>X0 11 rfl ?_
 obtain ⟨o1,hF,hK1⟩:=qc hF
 refine qm (rL (fun m e w'=>∃ (i1:Int),qT s m i1=some o1∧e=[(0,.slice p1 s.length k1),(1,.func (.func 316) #[] #[]),(7,.int .i64 (s.length:Int)),(8,.int .i64 i1)]∧SH w w' []) n ⟨_,hF,rfl,h⟩ rfl ?_)
 rintro m1 e1 w1 ⟨i1,hF,rfl,h⟩
 rcases m1 with _|m1
 ·cases hF
 refine X0 5 rfl (qh rfl hF ?_ ?_)<;>intro hF
 ·refine X0 13 rfl ?_
  obtain ⟨y1,hy1,hF,he1,b1,_,q1,cs2,hp1,hq1,hr1,hc2⟩:=s1.ix hF
  obtain rfl:=qbr hr1
  refine zxe hp1 hq1 he1 rfl (zc 0 (hc2.below h.below) rfl (zcB h hF (qmu (qjr y1)) rfl fun r1 w2 h hF=>qcr (qh rfl hF ?_ ?_)))<;>intro hF
  ·refine X0 5 rfl ?_
   obtain rfl:=qb hF;replace hF:=hK1
   exact ri h hF rfl
  exact X0 6 rfl (rK ⟨_,hF,rfl,h⟩ rfl)
 refine qu rfl ?_
 obtain rfl:=qb hF;replace hF:=hK1
 exact X0 4 rfl (ri h hF rfl)
def qhr (n:Nat) (c:qB):Option Int :=
 (qbo n c.Be).bind fun r1 =>
 some r1
theorem qnK {c:qB} (ha1:GoT.R w (old w) c cs1) {r:Int} (hF:qhr n c=some r):RetV Tryz.prog 303 [GoT.v qB cs1] w r:=by
 obtain ⟨p1,k1,p2,k2,p3,k3,rfl,s1,s2,s3⟩:=qac ha1
 exact zV 6 Tryz.func303 rfl fun h=>zSR (qv h rfl rfl fun w1 bb1 h=>X1 6 0 h rfl (zcI h hF (qe3 ⟨_,_,rfl,(h.oldS s1)⟩) rfl fun r1 w2 h hF=>X0 2 rfl (ri h hF rfl)))
def qgb (n:Nat) (c:qB) (pin:Int):Option Bool :=
 (qd0 n c).bind fun r1 =>
 (qaG n pin 0 (W64 (r1-1))).bind fun r2 =>
 some r2
theorem qi9 {c:qB} {pin:Int} (ha1:GoT.R w (old w) c cs1) {r:Bool} (hF:qgb n c pin=some r):RetV Tryz.prog 304 [GoT.v qB cs1,.int .i64 pin] w r:=by
 obtain ⟨p1,k1,p2,k2,p3,k3,rfl,s1,s2,s3⟩:=qac ha1
 exact zV 10 Tryz.func304 rfl fun h=>zSR (qv h rfl rfl fun w1 bb1 h=>X1 6 0 h rfl (zcI h hF (qg6 (h.old ha1)) rfl fun r1 w2 h hF=>zp1 rfl (zcB h hF qav rfl fun r2 w3 h hF=>X0 2 rfl (rb h hF rfl))))
end Go.Fw


namespace Go.Fw
open Go Go.Proofs
open Go.RowKit (Below)
set_option maxRecDepth 100000
set_option maxHeartbeats 1600000
variable {n:Nat} {w:World} {cs1 cs2 cs3 cs4 cs5 cs6 cs7 cs8 cs9:List Value}
def qhu (n:Nat) (a_0:qB) (a_1:qP):Option Bool :=
 (qjJ n a_1.Bf).bind fun r1 =>
 bif r1 then
  (
   bif (a_1.Bn==0) then
    bif ((a_1.Bc.length:Int)==0) then
     (qfr n a_1.Bp false).bind fun r2 =>
     bif r2 then
      (qhr n a_0).bind fun r3 =>
      bif (a_1.Bk==r3) then
       bif decide (a_1.Bk ≥ 0) then
        (qgb n a_0 a_1.To).bind fun r4 =>
        bif r4 then some (a_1.To != a_1.Bk) else
        some false
       else
        some false
      else
       some false
     else
      some false
    else
     some false
   else
    some false).bind fun b1 =>
  some b1
 else
  (
   (qfr n a_1.Bp true).bind fun r6 =>
   bif (!r6) then some true else
   (qfr n a_1.Bc true).bind fun r7 =>
   bif (!r7) then some true else
   (qd0 n a_0).bind fun r8 =>
   bif (a_1.To != r8) then some true else
   (qgb n a_0 a_1.Bk).bind fun r9 =>
   some (!r9)).bind fun b2 =>
  bif b2 then some false else
  bif (a_1.Bf==1) then
   (idx a_0.Be a_1.Bk).bind fun y1 =>
   bif (!y1.Bq) then
    (qaG n a_1.Bn 1 3).bind fun r5 =>
    some r5
   else
    some false
  else
   (
    bif (a_1.Bf==2) then some (a_1.Bf==2) else
    some (a_1.Bf==3)).bind fun b4 =>
   bif b4 then
    (idx a_0.Be a_1.Bk).bind fun y2 =>
    bif y2.Bq then some (a_1.Bn==0) else
    some false
   else
    some false
theorem qnI {a_0:qB} {a_1:qP} (ha1:GoT.R w (old w) a_0 cs1) (ha2:GoT.R w (old w) a_1 cs2) {r:Bool} (hF:qhu n a_0 a_1=some r):RetV Tryz.prog 291 [GoT.v qB cs1,GoT.v qP cs2] w r:=by
 obtain ⟨p1,k1,p2,k2,p3,k3,rfl,s1,s2,s3⟩:=qac ha1
 obtain ⟨p4,k4,p5,k5,rfl,s4,s5⟩:=qaf ha2
 refine zV 103 Tryz.func291 rfl fun h=>zSR (qv h rfl rfl fun w1 bb1 h=>qv h rfl rfl fun w2 bb2 h=>X1 7 0 h rfl (zcB h hF qpu rfl fun r1 w3 h hF=>qcr (qh rfl hF ?_ ?_)))<;>intro hF
 ·refine qcR ?_
  obtain ⟨KF1,hKF1,o1,hF,hK1⟩:=bindE hF
  refine qbl (fun e w'=>∃ (b1:Bool),KF1 b1=some r∧e=[(4,.bool b1)]∧SH w w' []) ?_ ?_
  ·refine rD (Y1 2 0 h rfl ?_)
   refine zd2 rfl (qaJ (t:=11) hF rfl ?_ ?_)<;>intro hF
   ·refine Y1 4 0 h rfl ?_
    refine Y0 6 rfl (qaJ (t:=17) hF rfl ?_ ?_)<;>intro hF
    ·refine Y1 4 0 h rfl ?_
     refine Y0 1 rfl ?_
     obtain ⟨r2,hr2,hF⟩:=qc hF
     refine qbj r2 (vsB _) (cB 302 rfl) (fun _ hb=>qih ⟨_,_,rfl,((h.ext hb).oldS s4)⟩ hr2) rfl rfl rfl rfl (zd2 rfl (qaJ (t:=22) hF rfl ?_ ?_))<;>intro hF
     ·refine Y1 4 0 h rfl ?_
      refine Y1 2 1 h rfl ?_
      refine Y0 1 rfl ?_
      obtain ⟨r3,hr3,hF⟩:=qc hF
      refine qbj r3 (vsI _) (cB 303 rfl) (fun _ hb=>qnK ((h.ext hb).old ha1) hr3) rfl rfl rfl rfl (Y0 4 rfl (qaJ (t:=29) hF rfl ?_ ?_))<;>intro hF
      ·refine Y1 4 0 h rfl ?_
       refine Y0 4 rfl (qaJ (t:=34) hF rfl ?_ ?_)<;>intro hF
       ·refine Y1 2 1 h rfl ?_
        refine Y1 4 0 h rfl ?_
        refine Y0 1 rfl ?_
        obtain ⟨r4,hr4,hF⟩:=qc hF
        refine qbj r4 (vsB _) (cB 304 rfl) (fun _ hb=>qi9 ((h.ext hb).old ha1) hr4) rfl rfl rfl rfl (zd2 rfl (qaJ (t:=40) hF rfl ?_ ?_))<;>intro hF
        ·refine Y1 4 0 h rfl ?_
         refine Y1 4 0 h rfl ?_
         refine Y0 4 rfl (dN h fun w4 h=>?_)
         replace h:=h.pick [] rfl
         obtain rfl:=qb hF
         exact rG ⟨_,hK1,rfl,h⟩ rfl
        refine Y0 7 rfl (dN h fun w5 h=>?_)
        replace h:=h.pick [] rfl
        obtain rfl:=qb hF
        exact rG ⟨_,hK1,rfl,h⟩ rfl
       refine Y0 13 rfl (dN h fun w6 h=>?_)
       replace h:=h.pick [] rfl
       obtain rfl:=qb hF
       exact rG ⟨_,hK1,rfl,h⟩ rfl
      refine Y0 18 rfl (dN h fun w7 h=>?_)
      replace h:=h.pick [] rfl
      obtain rfl:=qb hF
      exact rG ⟨_,hK1,rfl,h⟩ rfl
     refine Y0 25 rfl (dN h fun w8 h=>?_)
     replace h:=h.pick [] rfl
     obtain rfl:=qb hF
     exact rG ⟨_,hK1,rfl,h⟩ rfl
    refine Y0 30 rfl (dN h fun w9 h=>?_)
    replace h:=h.pick [] rfl
    obtain rfl:=qb hF
    exact rG ⟨_,hK1,rfl,h⟩ rfl
   refine Y0 36 rfl (dN h fun w10 h=>?_)
   replace h:=h.pick [] rfl
   obtain rfl:=qb hF
   exact rG ⟨_,hK1,rfl,h⟩ rfl
  rintro e1 w11 ⟨b1,hF,rfl,h⟩
  subst hKF1
  exact rb h hF rfl
 refine zKSS ?_
 obtain ⟨KF3,hKF3,o3,hF,hK3⟩:=bindE hF
 refine qbl (fun e w'=>∃ (b2:Bool),KF3 b2=some r∧e=[(2,.pointer (some ⟨bb1,0,none⟩)),(3,.pointer (some ⟨bb2,0,none⟩)),(70,.bool b2)]∧SH w w' [Ch.box bb2 (qgq a_1 p4 p5 k4 k5) 173,Ch.box bb1 (qdM a_0 p1 p2 p3 k1 k2 k3) 168]) ?_ ?_
 ·refine rD (Y1 2 0 h rfl ?_)
  obtain ⟨r6,hr8,hF⟩:=qc hF
  refine qbj r6 (vsB _) (cB 302 rfl) (fun _ hb=>qih ⟨_,_,rfl,((h.ext hb).oldS s4)⟩ hr8) rfl rfl rfl rfl (zd2 rfl (qaJ (t:=51) hF rfl ?_ ?_))<;>intro hF
  ·refine Y0 19 rfl (dN h fun w14 h=>?_)
   obtain rfl:=qb hF
   exact rG ⟨_,hK3,rfl,h⟩ rfl
  refine Y1 4 0 h rfl ?_
  refine Y0 1 rfl ?_
  obtain ⟨r7,hr9,hF⟩:=qc hF
  refine qbj r7 (vsB _) (cB 302 rfl) (fun _ hb=>qih ⟨_,_,rfl,((h.ext hb).oldS s5)⟩ hr9) rfl rfl rfl rfl (Y0 4 rfl (qaJ (t:=57) hF rfl ?_ ?_))<;>intro hF
  ·refine Y0 13 rfl (dN h fun w15 h=>?_)
   obtain rfl:=qb hF
   exact rG ⟨_,hK3,rfl,h⟩ rfl
  refine Y1 4 0 h rfl ?_
  refine Y1 2 1 h rfl ?_
  refine Y0 1 rfl ?_
  obtain ⟨r8,hr10,hF⟩:=qc hF
  refine qbj r8 (vsI _) (cB 294 rfl) (fun _ hb=>qg6 ((h.ext hb).old ha1) hr10) rfl rfl rfl rfl (Y0 4 rfl (qaJ (t:=64) hF rfl ?_ ?_))<;>intro hF
  ·refine Y0 6 rfl (dN h fun w16 h=>?_)
   obtain rfl:=qb hF
   exact rG ⟨_,hK3,rfl,h⟩ rfl
  refine Y1 2 1 h rfl ?_
  refine Y1 4 0 h rfl ?_
  refine Y0 1 rfl ?_
  obtain ⟨r9,hr11,hF⟩:=qc hF
  refine qbj r9 (vsB _) (cB 304 rfl) (fun _ hb=>qi9 ((h.ext hb).old ha1) hr11) rfl rfl rfl rfl (Y0 3 rfl (dN h fun w17 h=>?_))
  obtain rfl:=qb hF
  exact rG ⟨_,hK3,rfl,h⟩ rfl
 rintro e3 w18 ⟨b2,hF,rfl,h⟩
 subst hKF3
 refine qh rfl hF ?_ ?_<;>intro hF
 ·exact X0 4 rfl (rb h hF rfl)
 refine X1 13 0 h rfl (qh rfl hF ?_ ?_)<;>intro hF
 ·refine X2 6 1 0 h rfl ?_
  obtain ⟨y1,hy1,hF,he1,b3,_,q1,cs3,hp1,hq1,hr5,hc4⟩:=s1.ix hF
  obtain rfl:=qbr hr5
  refine zxe hp1 hq1 he1 rfl (zp1 rfl (zc 3 (hc4.below h.below) rfl (zp2 rfl (qi (t:=83) hF rfl ?_ ?_))))<;>intro hF
  ·exact X1 5 0 h rfl (zcB h hF qav rfl fun r5 w12 h hF=>X0 3 rfl (rb h hF rfl))
  exact X0 6 rfl (rb h hF rfl)
 refine X0 6 rfl ?_
 obtain ⟨KF2,hKF2,o2,hF,hK2⟩:=bindE hF
 refine qbl (fun e w'=>∃ (b4:Bool),KF2 b4=some r∧e=[(2,.pointer (some ⟨bb1,0,none⟩)),(3,.pointer (some ⟨bb2,0,none⟩)),(88,.bool b4)]∧SH w w' [Ch.box bb2 (qgq a_1 p4 p5 k4 k5) 173,Ch.box bb1 (qdM a_0 p1 p2 p3 k1 k2 k3) 168]) ?_ ?_
 ·refine qh rfl hF ?_ ?_<;>intro hF
  ·refine qhC ?_
   obtain rfl:=qb hF
   exact rG ⟨_,hK2,rfl,h⟩ rfl
  refine X0 4 rfl ?_
  obtain rfl:=qb hF
  exact rG ⟨_,hK2,rfl,h⟩ rfl
 rintro e2 w13 ⟨b4,hF,rfl,h⟩
 subst hKF2
 refine qh rfl hF ?_ ?_<;>intro hF
 ·refine X2 6 1 0 h rfl ?_
  obtain ⟨y2,hy2,hF,he2,b5,_,q2,cs4,hp2,hq2,hr7,hc6⟩:=s1.ix hF
  obtain rfl:=qbr hr7
  refine zxe hp2 hq2 he2 rfl (zp1 rfl (zc 3 (hc6.below h.below) rfl (zp1 rfl (qi (t:=98) hF rfl ?_ ?_))))<;>intro hF
  ·exact X1 9 0 h rfl (rb h hF rfl)
  exact X0 6 rfl (rb h hF rfl)
 exact X0 6 rfl (rb h hF rfl)
def qe7 (_:Nat) (a_o:qP) (v0:qP):Option Bool :=
 bif (a_o.Bf==v0.Bf) then
  bif (a_o.Bk==v0.Bk) then some (a_o.To==v0.To) else
  some false
 else
  some false
theorem ql0 {a_o:qP} {v0:qP} (ha1:GoT.R w (old w) a_o cs1) {p3:Option Addr} (ha2:GoT.R w (old w) (some v0) [.pointer p3]) {r:Bool} (hF:qe7 n a_o v0=some r):RetV Tryz.prog 293 [GoT.v qP cs1,.pointer p3] w r:=by
 obtain ⟨p1,k1,p2,k2,rfl,s1,s2⟩:=qaf ha1
 obtain ⟨b1,o_1,cs2,rfl,-,hr1,hc1⟩:=PtR.get ha2 rfl
 obtain ⟨p4,k3,p5,k4,rfl,s3,s4⟩:=qaf hr1
 refine zV 23 Tryz.func293 rfl fun h=>zSR (qv h rfl rfl fun w1 bb1 h=>X1 7 0 h rfl (zc 0 (hc1.below h.below) rfl (zp2 rfl (qi (t:=9) hF rfl ?_ ?_))))<;>intro hF
 ·refine X1 7 0 h rfl (zc 1 (hc1.below h.below) rfl (X0 4 rfl (qi (t:=16) hF rfl ?_ ?_)))<;>intro hF
  ·exact X1 7 0 h rfl (zc 2 (hc1.below h.below) rfl (X0 5 rfl (rb h hF rfl)))
  exact X0 8 rfl (rb h hF rfl)
 exact X0 15 rfl (rb h hF rfl)
def qI (s:(List qP)) (f_0:qP):Nat→Int→Option (Flow Int Int)
 | 0,_=>none
 | n+1,i1 =>
  bif decide (i1<(s.length:Int)) then
   (idx s i1).bind fun y1 =>
   (qe7 n y1 f_0).bind fun r1 =>
   bif r1 then some (.ret i1) else
   qI s f_0 n (W64 (i1+1))
  else
   some (.nxt i1)
def qa2 (n:Nat) (s:(List qP)) (f_0:qP):Option Int :=
 (qI s f_0 n 0).bind fun o=>match o with
 | .ret r=>some r
 | .nxt _ =>
  some (-1)
theorem qer {s:(List qP)} {f_0:qP} (ha1:GoT.R w (old w) s cs1) {p2:Option Addr} (ha2:GoT.R w (old w) (some f_0) [.pointer p2]) {r:Int} (hF:qa2 n s f_0=some r):RetV Tryz.prog 305 [GoT.v (List qP) cs1,.func (.func 293) #[] #[.pointer p2]] w r:=by
 obtain ⟨p1,k1,rfl,s1⟩:=ha1
 obtain ⟨b1,o_1,cs2,rfl,-,hr1,hc1⟩:=PtR.get ha2 rfl
 obtain ⟨p3,k2,p4,k3,rfl,s2,s3⟩:=qaf hr1
 refine zV 19 Tryz.func305 rfl fun h=>X0 11 rfl ?_
 obtain ⟨o1,hF,hK1⟩:=qc hF
 refine qm (rL (fun m e w'=>∃ (i1:Int),qI s f_0 m i1=some o1∧e=[(0,.slice p1 s.length k1),(1,.func (.func 293) #[] #[.pointer (some ⟨b1,o_1,none⟩)]),(7,.int .i64 (s.length:Int)),(8,.int .i64 i1)]∧SH w w' []) n ⟨_,hF,rfl,h⟩ rfl ?_)
 rintro m1 e1 w1 ⟨i1,hF,rfl,h⟩
 rcases m1 with _|m1
 ·cases hF
 refine X0 5 rfl (qh rfl hF ?_ ?_)<;>intro hF
 ·refine X0 13 rfl ?_
  obtain ⟨y1,hy1,hF,he1,b2,_,q1,cs3,hp1,hq1,hr2,hc3⟩:=s1.ix hF
  obtain ⟨p5,k4,p6,k5,rfl,s4,s5⟩:=qaf hr2
  refine zxe hp1 hq1 he1 rfl (zc 0 (hc3.below h.below) rfl (zcB h hF (ql0 (qfm y1 (h.oldS s4) (h.oldS s5)) (h.old ha2)) rfl fun r1 w2 h hF=>qcr (qh rfl hF ?_ ?_)))<;>intro hF
  ·refine X0 5 rfl ?_
   obtain rfl:=qb hF;replace hF:=hK1
   exact ri h hF rfl
  exact X0 6 rfl (rK ⟨_,hF,rfl,h⟩ rfl)
 refine qu rfl ?_
 obtain rfl:=qb hF;replace hF:=hK1
 exact X0 4 rfl (ri h hF rfl)
def qat (n:Nat) (s:(List qP)) (f_0:qP):Option Bool :=
 (qa2 n s f_0).bind fun r1 =>
 some (decide (r1 ≥ 0))
theorem qea {s:(List qP)} {f_0:qP} (ha1:GoT.R w (old w) s cs1) {p2:Option Addr} (ha2:GoT.R w (old w) (some f_0) [.pointer p2]) {r:Bool} (hF:qat n s f_0=some r):RetV Tryz.prog 292 [GoT.v (List qP) cs1,.func (.func 293) #[] #[.pointer p2]] w r:=by
 obtain ⟨p1,k1,rfl,s1⟩:=ha1
 obtain ⟨b1,o_1,cs2,rfl,-,hr1,hc1⟩:=PtR.get ha2 rfl
 obtain ⟨p3,k2,p4,k3,rfl,s2,s3⟩:=qaf hr1
 exact zV 9 Tryz.func292 rfl fun h=>X0 8 rfl (zcI h hF (qer ⟨_,_,rfl,(h.oldS s1)⟩ (h.old ha2)) rfl fun r1 w1 h hF=>X0 3 rfl (rb h hF rfl))
def qcj (c:qB):Nat→Int→Option (Flow Bool Int)
 | 0,_=>none
 | n+1,i1 =>
  bif decide (i1<(c.Au.length:Int)) then
   (idx c.Au i1).bind fun y1 =>
   (qhu n c y1).bind fun r1 =>
   bif (!r1) then some (.ret false) else
   (subS c.Au 0 i1).bind fun x1 =>
   (qat n x1 y1).bind fun r2 =>
   bif r2 then some (.ret false) else
   qcj c n (W64 (i1+1))
  else
   some (.nxt i1)
def qge (n:Nat) (c:qB):Option Bool :=
 (qcj c n 0).bind fun o=>match o with
 | .ret r=>some r
 | .nxt _ =>
  some (decide ((c.Au.length:Int)≤8))
theorem qmW {c:qB} (ha1:GoT.R w (old w) c cs1) {r:Bool} (hF:qge n c=some r):RetV Tryz.prog 281 [GoT.v qB cs1] w r:=by
 obtain ⟨p1,k1,p2,k2,p3,k3,rfl,s1,s2,s3⟩:=qac ha1
 refine zV 30 Tryz.func281 rfl fun h=>zSR (qv h rfl rfl fun w1 bb1 h=>X1 10 0 h rfl ?_)
 obtain ⟨o1,hF,hK1⟩:=qc hF
 refine qm (rL (fun m e w'=>∃ (i1:Int),qcj c m i1=some o1∧e=[(1,.pointer (some ⟨bb1,0,none⟩)),(6,.slice p2 c.Au.length k2),(7,.int .i64 (c.Au.length:Int)),(8,.int .i64 i1)]∧SH w w' [Ch.box bb1 (qdM c p1 p2 p3 k1 k2 k3) 168]) n ⟨_,hF,rfl,h⟩ rfl ?_)
 rintro m1 e1 w2 ⟨i1,hF,rfl,h⟩
 rcases m1 with _|m1
 ·cases hF
 refine X0 5 rfl (qh rfl hF ?_ ?_)<;>intro hF
 ·refine X0 6 rfl ?_
  obtain ⟨y1,hy1,hF,he1,b1,_,q1,cs2,hp1,hq1,hr1,hc2⟩:=s2.ix hF
  obtain ⟨p4,k4,p5,k5,rfl,s4,s5⟩:=qaf hr1
  refine zxe hp1 hq1 he1 rfl (zc 0 (hc2.below h.below) rfl (qj qa h rfl rfl rfl fun w3 bb2 h=>zp1 rfl (zs 0 h rfl fun w4 h=>X2 5 1 0 h rfl (zcB h hF (qnI (h.old ha1) (qfm y1 (h.oldS s4) (h.oldS s5))) rfl fun r1 w5 h hF=>zp2 rfl (qi (t:=17) hF rfl ?_ ?_)))))<;>intro hF
  ·refine X0 8 rfl (qbU rfl rfl (X0 4 rfl ?_))
   obtain rfl:=qb hF;replace hF:=hK1
   exact rb h hF rfl
  refine X1 7 1 h rfl ?_
  obtain ⟨x1,hx1,hF⟩:=qc hF
  obtain ⟨p6,k6,hp2,hk1,hl1,g1⟩:=qwB (h.oldS s2) hx1
  refine r_v (qs7 qa rfl rfl rfl (qwt g1 rfl) hp2 hk1 hl1 rfl rfl rfl rfl) rfl ?_
  have s6:=qvV s2 hx1 hp2 hk1
  refine X0 3 rfl (zcB h hF (qea ⟨_,_,rfl,(h.oldS s6)⟩ (qgy (x:=y1) 0 h rfl (qfm y1 (h.oldS s4) (h.oldS s5)))) rfl fun r2 w6 h hF=>X0 2 rfl (qh rfl hF ?_ ?_))<;>intro hF
  ·refine X0 4 rfl ?_
   obtain rfl:=qb hF;replace hF:=hK1
   exact rb h hF rfl
  refine X0 6 rfl ?_
  replace h:=h.pick [1] rfl
  exact rK ⟨_,hF,rfl,h⟩ rfl
 refine qu rfl ?_
 obtain rfl:=qb hF;replace hF:=hK1
 exact X1 8 0 h rfl (rb h hF rfl)
def qjx (_:Nat) (a:qP) (v0:Int):Option Bool :=
 some (a.Bf==v0)
theorem qnF {a:qP} {v0:Int} (ha1:GoT.R w (old w) a cs1) {p3:Option Addr} (ha2:GoT.R w (old w) (some v0) [.pointer p3]) {r:Bool} (hF:qjx n a v0=some r):RetV Tryz.prog 306 [GoT.v qP cs1,.pointer p3] w r:=by
 obtain ⟨p1,k1,p2,k2,rfl,s1,s2⟩:=qaf ha1
 obtain ⟨b1,o_1,cs2,rfl,-,hr1,hc1⟩:=PtR.get ha2 rfl
 obtain rfl:=hr1
 exact zV 8 Tryz.func306 rfl fun h=>zSR (qv h rfl rfl fun w1 bb1 h=>X1 6 0 h rfl (zc 0 (hc1.below h.below) rfl (X0 3 rfl (rb h hF rfl))))
def qZ (s:(List qP)) (f_0:Int):Nat→Int→Option (Flow Int Int)
 | 0,_=>none
 | n+1,i1 =>
  bif decide (i1<(s.length:Int)) then
   (idx s i1).bind fun y1 =>
   (qjx n y1 f_0).bind fun r1 =>
   bif r1 then some (.ret i1) else
   qZ s f_0 n (W64 (i1+1))
  else
   some (.nxt i1)
def qbv (n:Nat) (s:(List qP)) (f_0:Int):Option Int :=
 (qZ s f_0 n 0).bind fun o=>match o with
 | .ret r=>some r
 | .nxt _ =>
  some (-1)
theorem qfp {s:(List qP)} {f_0:Int} (ha1:GoT.R w (old w) s cs1) {p2:Option Addr} (ha2:GoT.R w (old w) (some f_0) [.pointer p2]) {r:Int} (hF:qbv n s f_0=some r):RetV Tryz.prog 305 [GoT.v (List qP) cs1,.func (.func 306) #[] #[.pointer p2]] w r:=by
 obtain ⟨p1,k1,rfl,s1⟩:=ha1
 obtain ⟨b1,o_1,cs2,rfl,-,hr1,hc1⟩:=PtR.get ha2 rfl
 obtain rfl:=hr1
 refine zV 19 Tryz.func305 rfl fun h=>X0 11 rfl ?_
 obtain ⟨o1,hF,hK1⟩:=qc hF
 refine qm (rL (fun m e w'=>∃ (i1:Int),qZ s f_0 m i1=some o1∧e=[(0,.slice p1 s.length k1),(1,.func (.func 306) #[] #[.pointer (some ⟨b1,o_1,none⟩)]),(7,.int .i64 (s.length:Int)),(8,.int .i64 i1)]∧SH w w' []) n ⟨_,hF,rfl,h⟩ rfl ?_)
 rintro m1 e1 w1 ⟨i1,hF,rfl,h⟩
 rcases m1 with _|m1
 ·cases hF
 refine X0 5 rfl (qh rfl hF ?_ ?_)<;>intro hF
 ·refine X0 13 rfl ?_
  obtain ⟨y1,hy1,hF,he1,b2,_,q1,cs3,hp1,hq1,hr2,hc3⟩:=s1.ix hF
  obtain ⟨p3,k2,p4,k3,rfl,s2,s3⟩:=qaf hr2
  refine zxe hp1 hq1 he1 rfl (zc 0 (hc3.below h.below) rfl (zcB h hF (qnF (qfm y1 (h.oldS s2) (h.oldS s3)) (h.old ha2)) rfl fun r1 w2 h hF=>qcr (qh rfl hF ?_ ?_)))<;>intro hF
  ·refine X0 5 rfl ?_
   obtain rfl:=qb hF;replace hF:=hK1
   exact ri h hF rfl
  exact X0 6 rfl (rK ⟨_,hF,rfl,h⟩ rfl)
 refine qu rfl ?_
 obtain rfl:=qb hF;replace hF:=hK1
 exact X0 4 rfl (ri h hF rfl)
def qa7 (n:Nat) (s:(List qP)) (f_0:Int):Option Bool :=
 (qbv n s f_0).bind fun r1 =>
 some (decide (r1 ≥ 0))
theorem qeR {s:(List qP)} {f_0:Int} (ha1:GoT.R w (old w) s cs1) {p2:Option Addr} (ha2:GoT.R w (old w) (some f_0) [.pointer p2]) {r:Bool} (hF:qa7 n s f_0=some r):RetV Tryz.prog 292 [GoT.v (List qP) cs1,.func (.func 306) #[] #[.pointer p2]] w r:=by
 obtain ⟨p1,k1,rfl,s1⟩:=ha1
 obtain ⟨b1,o_1,cs2,rfl,-,hr1,hc1⟩:=PtR.get ha2 rfl
 obtain rfl:=hr1
 exact zV 9 Tryz.func292 rfl fun h=>X0 8 rfl (zcI h hF (qfp ⟨_,_,rfl,(h.oldS s1)⟩ (h.old ha2)) rfl fun r1 w1 h hF=>X0 3 rfl (rb h hF rfl))
def qda (n:Nat) (c:qB) (kind:Int):Option Bool :=
 (qa7 n c.Au kind).bind fun r1 =>
 some r1
theorem qd7 {c:qB} {kind:Int} (ha1:GoT.R w (old w) c cs1) {r:Bool} (hF:qda n c kind=some r):RetV Tryz.prog 295 [GoT.v qB cs1,.int .i64 kind] w r:=by
 obtain ⟨p1,k1,p2,k2,p3,k3,rfl,s1,s2,s3⟩:=qac ha1
 exact zV 9 Tryz.func295 rfl fun h=>zSR (qv h rfl rfl fun w1 bb1 h=>qv h rfl rfl fun w2 bb2 h=>X1 7 1 h rfl (zcB h hF (qeR ⟨_,_,rfl,(h.oldS s2)⟩ (qgy (x:=kind) 0 h rfl rfl)) rfl fun r1 w3 h hF=>X0 2 rfl (rb h hF rfl)))
def qa3 (a_0:qB):Nat→Int→Int→Option (Int × Int)
 | 0,_,_=>none
 | n+1,i1,i2 =>
  bif decide (i2<(a_0.Be.length:Int)) then
   (idx a_0.Be i2).bind fun y1 =>
   bif y1.Bq then qa3 a_0 n (W64 (i1+1)) (W64 (i2+1)) else
   qa3 a_0 n i1 (W64 (i2+1))
  else
   some (i1,i2)
def qfy (n:Nat) (a_0:qB):Option Bool :=
 (qa3 a_0 n 0 0).bind fun o=>match o with
 | (i1,_) =>
  bif (a_0.Bf==1) then
   bif (i1==0) then
    (qd0 n a_0).bind fun r1 =>
    (shlS 1 r1).bind fun y2 =>
    bif ((a_0.Br.length:Int)==y2) then
     (qbK n a_0.Br 0 1).bind fun r2 =>
     some r2
    else
     some false
   else
    some false
  else
   bif (a_0.Bf==2) then
    bif (i1==1) then
     bif ((a_0.Br.length:Int)==0) then
      (qda n a_0 1).bind fun r3 =>
      bif (!r3) then
       (qda n a_0 2).bind fun r4 =>
       (qda n a_0 3).bind fun r5 =>
       some (!(r4==r5))
      else
       some false
     else
      some false
    else
     some false
   else
    bif (a_0.Bf==3) then
     bif (i1==1) then
      bif ((a_0.Br.length:Int)==0) then
       (qda n a_0 1).bind fun r6 =>
       bif r6 then
        (qda n a_0 2).bind fun r7 =>
        bif r7 then
         (qda n a_0 3).bind fun r8 =>
         some (!r8)
        else
         some false
       else
        some false
      else
       some false
     else
      some false
    else
     some false
theorem qmn {a_0:qB} (ha1:GoT.R w (old w) a_0 cs1) {r:Bool} (hF:qfy n a_0=some r):RetV Tryz.prog 282 [GoT.v qB cs1] w r:=by
 obtain ⟨p1,k1,p2,k2,p3,k3,rfl,s1,s2,s3⟩:=qac ha1
 refine zV 83 Tryz.func282 rfl fun h=>zSR (qv h rfl rfl fun w1 bb1 h=>X1 14 0 h rfl ?_)
 obtain ⟨o1,hF,hK1⟩:=qc hF
 refine qm (rL (fun m e w'=>∃ (i1:Int) (i2:Int),qa3 a_0 m i1 i2=some o1∧e=[(1,.pointer (some ⟨bb1,0,none⟩)),(3,.int .i64 i1),(7,.slice p1 a_0.Be.length k1),(8,.int .i64 (a_0.Be.length:Int)),(9,.int .i64 i2)]∧SH w w' [Ch.box bb1 (qdM a_0 p1 p2 p3 k1 k2 k3) 168]) n ⟨_,_,hF,rfl,h⟩ rfl ?_)
 rintro m1 e1 w2 ⟨i1,i2,hF,rfl,h⟩
 rcases m1 with _|m1
 ·cases hF
 refine X0 5 rfl (qh rfl hF ?_ ?_)<;>intro hF
 ·refine zKSBSR ?_
  obtain ⟨y1,hy1,hF,he1,b1,_,q1,cs2,hp1,hq1,hr1,hc2⟩:=s1.ix hF
  obtain rfl:=qbr hr1
  refine zxe hp1 hq1 he1 rfl (zc 0 (hc2.below h.below) rfl (qj qa h rfl rfl rfl fun w3 bb2 h=>zs 0 h rfl fun w4 h=>X1 6 0 h rfl (qh rfl hF ?_ ?_)))<;>intro hF
  ·refine X0 10 rfl ?_
   replace h:=h.pick [1] rfl
   exact rK ⟨_,_,hF,rfl,h⟩ rfl
  refine X0 6 rfl ?_
  replace h:=h.pick [1] rfl
  exact rK ⟨_,_,hF,rfl,h⟩ rfl
 refine qu rfl ?_
 obtain rfl:=qb hF;replace hF:=hK1
 refine X1 12 0 h rfl (qh rfl hF ?_ ?_)<;>intro hF
 ·refine qcR (rD (zd3 rfl (qaJ (t:=24) hF rfl ?_ ?_)))<;>intro hF
  ·refine Y1 4 0 h rfl ?_
   refine Y1 4 0 h rfl ?_
   refine Y0 1 rfl ?_
   obtain ⟨r1,hr2,hF⟩:=qc hF
   refine qbj r1 (vsI _) (cB 294 rfl) (fun _ hb=>qg6 ((h.ext hb).old ha1) hr2) rfl rfl rfl rfl (Y0 1 rfl ?_)
   obtain ⟨y2,hx1,hF⟩:=qc hF
   obtain ⟨g1,hx1⟩:=qrA hx1
   refine d_v (fun _ hb=>qxQ g1 rfl rfl) rfl ?_
   rw [hx1]
   refine Y0 4 rfl (qaJ (t:=33) hF rfl ?_ ?_)<;>intro hF
   ·refine Y1 4 0 h rfl ?_
    refine Y0 1 rfl ?_
    obtain ⟨r2,hr3,hF⟩:=qc hF
    exact qbj r2 (vsB _) (cB 106 rfl) (fun _ hb=>qb4 ⟨_,_,rfl,((h.ext hb).oldS s3)⟩ hr3) rfl rfl rfl rfl (zd2 rfl (dN h fun w5 h=>rb h hF rfl))
   exact Y0 5 rfl (dN h fun w6 h=>rb h hF rfl)
  exact Y0 14 rfl (dN h fun w7 h=>rb h hF rfl)
 refine X0 5 rfl (qh rfl hF ?_ ?_)<;>intro hF
 ·refine qcR (rD (zd3 rfl (qaJ (t:=42) hF rfl ?_ ?_)))<;>intro hF
  ·refine Y1 4 0 h rfl ?_
   refine Y0 6 rfl (qaJ (t:=48) hF rfl ?_ ?_)<;>intro hF
   ·refine Y1 2 0 h rfl ?_
    refine Y0 1 rfl ?_
    obtain ⟨r3,hr4,hF⟩:=qc hF
    refine qbj r3 (vsB _) (cB 295 rfl) (fun _ hb=>qd7 ((h.ext hb).old ha1) hr4) rfl rfl rfl rfl (Y0 4 rfl (qaJ (t:=53) hF rfl ?_ ?_))<;>intro hF
    ·refine Y1 2 0 h rfl ?_
     refine Y0 1 rfl ?_
     obtain ⟨r4,hr5,hF⟩:=qc hF
     refine qbj r4 (vsB _) (cB 295 rfl) (fun _ hb=>qd7 ((h.ext hb).old ha1) hr5) rfl rfl rfl rfl (Y1 2 0 h rfl ?_)
     refine Y0 1 rfl ?_
     obtain ⟨r5,hr6,hF⟩:=qc hF
     exact qbj r5 (vsB _) (cB 295 rfl) (fun _ hb=>qd7 ((h.ext hb).old ha1) hr6) rfl rfl rfl rfl (Y0 4 rfl (dN h fun w8 h=>rb h hF rfl))
    exact Y0 7 rfl (dN h fun w9 h=>rb h hF rfl)
   exact Y0 12 rfl (dN h fun w10 h=>rb h hF rfl)
  exact Y0 18 rfl (dN h fun w11 h=>rb h hF rfl)
 refine X0 5 rfl (qh rfl hF ?_ ?_)<;>intro hF
 ·refine X0 5 rfl (qi (t:=64) hF rfl ?_ ?_)<;>intro hF
  ·refine X1 10 0 h rfl (qi (t:=70) hF rfl ?_ ?_)<;>intro hF
   ·refine X1 3 0 h rfl (zcB h hF (qd7 (h.old ha1)) rfl fun r6 w12 h hF=>zp2 rfl (qi (t:=74) hF rfl ?_ ?_))<;>intro hF
    ·refine X1 3 0 h rfl (zcB h hF (qd7 (h.old ha1)) rfl fun r7 w13 h hF=>zp2 rfl (qi (t:=78) hF rfl ?_ ?_))<;>intro hF
     ·exact X1 3 0 h rfl (zcB h hF (qd7 (h.old ha1)) rfl fun r8 w14 h hF=>X0 5 rfl (rb h hF rfl))
     exact X0 6 rfl (rb h hF rfl)
    exact X0 10 rfl (rb h hF rfl)
   exact X0 14 rfl (rb h hF rfl)
  exact X0 20 rfl (rb h hF rfl)
 exact X0 6 rfl (rb h hF rfl)
def qkD (n:Nat) (c:qB):Option Bool :=
 (qhL n c.Bb).bind fun r1 =>
 bif r1 then
  (qjR n c.Be).bind fun r2 =>
  bif r2 then
   (qge n c).bind fun r3 =>
   bif r3 then
    (qaG n c.Ca 0 100000).bind fun r4 =>
    bif r4 then
     (qaG n c.Bu 0 100000).bind fun r5 =>
     bif r5 then
      (qfy n c).bind fun r6 =>
      some r6
     else
      some false
    else
     some false
   else
    some false
  else
   some false
 else
  some false
theorem qqd {c:qB} (ha1:GoT.R w (old w) c cs1) {r:Bool} (hF:qkD n c=some r):RetV Tryz.prog 264 [GoT.v qB cs1] w r:=by
 obtain ⟨p1,k1,p2,k2,p3,k3,rfl,s1,s2,s3⟩:=qac ha1
 refine zV 29 Tryz.func264 rfl fun h=>zSR (qv h rfl rfl fun w1 bb1 h=>X1 6 0 h rfl (zcB h hF qki rfl fun r1 w2 h hF=>zp1 rfl (qi (t:=6) hF rfl ?_ ?_)))<;>intro hF
 ·refine X1 5 0 h rfl (zcB h hF (qpD ⟨_,_,rfl,(h.oldS s1)⟩) rfl fun r2 w3 h hF=>zp2 rfl (qi (t:=11) hF rfl ?_ ?_))<;>intro hF
  ·refine X1 3 0 h rfl (zcB h hF (qmW (h.old ha1)) rfl fun r3 w4 h hF=>zp2 rfl (qi (t:=15) hF rfl ?_ ?_))<;>intro hF
   ·refine X1 5 0 h rfl (zcB h hF qav rfl fun r4 w5 h hF=>zp2 rfl (qi (t:=20) hF rfl ?_ ?_))<;>intro hF
    ·refine X1 5 0 h rfl (zcB h hF qav rfl fun r5 w6 h hF=>zp2 rfl (qi (t:=25) hF rfl ?_ ?_))<;>intro hF
     ·exact X1 3 0 h rfl (zcB h hF (qmn (h.old ha1)) rfl fun r6 w7 h hF=>X0 3 rfl (rb h hF rfl))
     exact X0 5 rfl (rb h hF rfl)
    exact X0 10 rfl (rb h hF rfl)
   exact X0 15 rfl (rb h hF rfl)
  exact X0 19 rfl (rb h hF rfl)
 exact X0 24 rfl (rb h hF rfl)
def qcy (l:qq):Nat→(List ByteArray)→Int→Option (Flow Bool ((List ByteArray) × Int))
 | 0,_,_=>none
 | n+1,x1,i1 =>
  bif decide (i1<(l.Aq.length:Int)) then
   (idx l.Aq i1).bind fun y1 =>
   (qkD n y1).bind fun r1 =>
   bif (!r1) then some (.ret false) else
   (appS x1 ([y1.Bb]:List ByteArray)).bind fun x2 =>
   qcy l n x2 (W64 (i1+1))
  else
   some (.nxt (x1,i1))
def qhN (n:Nat) (l:qq):Option Bool :=
 (qcy l n ([]:List ByteArray) 0).bind fun o=>match o with
 | .ret r=>some r
 | .nxt (x1,_) =>
  bif decide ((l.Aq.length:Int)≤8) then
   (qdZ n x1).bind fun r2 =>
   some r2
  else
   some false
theorem qoj {l:qq} (ha1:GoT.R w (old w) l cs1) {r:Bool} (hF:qhN n l=some r):RetV Tryz.prog 239 [GoT.v qq cs1] w r:=by
 obtain ⟨p1,k1,rfl,s1⟩:=qbA ha1
 refine zV 30 Tryz.func239 rfl fun h=>zSR (qv h rfl rfl fun w1 bb1 h=>X1 14 0 h rfl ?_)
 replace h:=h.nil (α:=ByteArray)
 obtain ⟨o1,hF,hK1⟩:=qc hF
 refine qm (rL (fun m e w'=>∃ (S1:Nat→Prop) (p2:Option Addr) (ln1:Nat) (k2:Nat) (x1:(List ByteArray)) (i1:Int),qcy l m x1 i1=some o1∧e=[(1,.pointer (some ⟨bb1,0,none⟩)),(3,.slice p2 ln1 k2),(7,.slice p1 l.Aq.length k1),(8,.int .i64 (l.Aq.length:Int)),(9,.int .i64 i1)]∧SH w w' [Ch.own S1 (x1:List ByteArray) [.slice p2 ln1 k2],Ch.box bb1 [.slice p1 l.Aq.length k1] 44]) n ⟨_,_,_,_,_,_,hF,rfl,h⟩ rfl ?_)
 rintro m1 e1 w2 ⟨S1,p2,ln1,k2,x1,i1,hF,rfl,h⟩
 obtain rfl:=(h.sl 0 rfl).2
 rcases m1 with _|m1
 ·cases hF
 refine X0 5 rfl (qh rfl hF ?_ ?_)<;>intro hF
 ·refine zKSBSR ?_
  obtain ⟨y1,hy1,hF,he1,b1,_,q1,cs2,hp1,hq1,hr1,hc2⟩:=s1.ix hF
  obtain ⟨p3,k3,p4,k4,p5,k5,rfl,s2,s3,s4⟩:=qac hr1
  refine zxe hp1 hq1 he1 rfl (zc 0 (hc2.below h.below) rfl (qj qa h rfl rfl rfl fun w3 bb2 h=>zs 0 h rfl fun w4 h=>X1 5 0 h rfl (zcB h hF (qqd (qjU y1 (h.oldS s2) (h.oldS s3) (h.oldS s4))) rfl fun r1 w5 h hF=>X0 2 rfl (qh rfl hF ?_ ?_))))<;>intro hF
  ·refine X0 4 rfl ?_
   obtain rfl:=qb hF;replace hF:=hK1
   exact rb h hF rfl
  refine X1 5 0 h rfl (qK qa [.tmp 18] _ ([y1.Bb]:List ByteArray) h rfl rfl rfl rfl rfl rfl rfl rfl rfl ⟨rfl,trivial⟩ rfl fun w6 p6 S2 h=>?_)
  obtain ⟨x2,hx1,hF⟩:=qc hF
  obtain ⟨g1,hx1⟩:=qay hx1
  refine qcw qa 2 h rfl (h.sl 0 rfl).1 (h.sl 0 rfl).2 rfl rfl rfl rfl rfl rfl rfl rfl rfl g1 hx1 rfl fun w7 p7 k6 S3 h=>X0 7 rfl ?_
  replace h:=h.pick [2,3] rfl
  exact rK ⟨_,_,_,_,_,_,hF,rfl,h⟩ rfl
 refine qu rfl ?_
 obtain rfl:=qb hF;replace hF:=hK1
 refine X1 7 1 h rfl (qi (t:=26) hF rfl ?_ ?_)<;>intro hF
 ·exact X0 3 rfl (zcB h hF (qfd (h.own 0 rfl)) rfl fun r2 w8 h hF=>X0 3 rfl (rb h hF rfl))
 exact X0 5 rfl (rb h hF rfl)
def qbd (d:qe):Nat→(List ByteArray)→Int→Option ((List ByteArray) × Int)
 | 0,_,_=>none
 | n+1,x3,i2 =>
  bif decide (i2<(d.Aj.length:Int)) then
   (idx d.Aj i2).bind fun y2 =>
   (appS x3 ([y2.Bb]:List ByteArray)).bind fun x4 =>
   qbd d n x4 (W64 (i2+1))
  else
   some (x3,i2)
def qba (d:qe):Nat→(List ByteArray)→Int→Option ((List ByteArray) × Int)
 | 0,_,_=>none
 | n+1,x1,i1 =>
  bif decide (i1<(d.Aa.length:Int)) then
   (idx d.Aa i1).bind fun y1 =>
   (appS x1 ([y1.Bb]:List ByteArray)).bind fun x2 =>
   qba d n x2 (W64 (i1+1))
  else
   some (x1,i1)
def qeL (n:Nat) (d:qe):Option Bool :=
 (qba d n ([]:List ByteArray) 0).bind fun o=>match o with
 | (x1,_) =>
  (qbd d n ([]:List ByteArray) 0).bind fun o=>match o with
  | (x3,_) =>
   bif decide ((x1.length:Int)≤14) then
    bif decide ((d.Am.length:Int)≤30) then
     bif decide ((x3.length:Int)≤8) then
      (qdZ n x1).bind fun r1 =>
      bif r1 then
       (qdZ n d.Am).bind fun r2 =>
       bif r2 then
        (qdZ n x3).bind fun r3 =>
        some r3
       else
        some false
      else
       some false
     else
      some false
    else
     some false
   else
    some false
theorem qlr {d:qe} (ha1:GoT.R w (old w) d cs1) {r:Bool} (hF:qeL n d=some r):RetV Tryz.prog 240 [GoT.v qe cs1] w r:=by
 obtain ⟨p1,k1,p2,k2,p3,k3,rfl,s1,s2,s3⟩:=qau ha1
 refine zV 62 Tryz.func240 rfl fun h=>zSR (qv h rfl rfl fun w1 bb1 h=>X1 15 0 h rfl ?_)
 replace h:=h.nil (α:=ByteArray)
 obtain ⟨o1,hF,hK1⟩:=qc hF
 refine qm (rL (fun m e w'=>∃ (S1:Nat→Prop) (p4:Option Addr) (ln1:Nat) (k4:Nat) (x1:(List ByteArray)) (i1:Int),qba d m x1 i1=some o1∧e=[(1,.pointer (some ⟨bb1,0,none⟩)),(3,.slice p4 ln1 k4),(4,.slice none 0 0),(10,.slice p1 d.Aa.length k1),(11,.int .i64 (d.Aa.length:Int)),(12,.int .i64 i1)]∧SH w w' [Ch.own S1 (x1:List ByteArray) [.slice p4 ln1 k4],Ch.box bb1 (qaI d p1 p2 p3 k1 k2 k3) 48]) n ⟨_,_,_,_,_,_,hF,rfl,h⟩ rfl ?_)
 rintro m1 e1 w2 ⟨S1,p4,ln1,k4,x1,i1,hF,rfl,h⟩
 obtain rfl:=(h.sl 0 rfl).2
 rcases m1 with _|m1
 ·cases hF
 refine X0 5 rfl (qh rfl hF ?_ ?_)<;>intro hF
 ·refine zKSBSR ?_
  obtain ⟨y1,hy1,hF,he1,b1,_,q1,cs2,hp1,hq1,hr1,hc2⟩:=s1.ix hF
  obtain ⟨p5,k5,rfl,s4⟩:=qN hr1
  refine zxe hp1 hq1 he1 rfl (zc 0 (hc2.below h.below) rfl (qj qa h rfl rfl rfl fun w3 bb2 h=>zs 0 h rfl fun w4 h=>X1 5 0 h rfl (qK qa [.tmp 18] _ ([y1.Bb]:List ByteArray) h rfl rfl rfl rfl rfl rfl rfl rfl rfl ⟨rfl,trivial⟩ rfl fun w5 p6 S2 h=>?_)))
  obtain ⟨x2,hx1,hF⟩:=qc hF
  obtain ⟨g1,hx1⟩:=qay hx1
  refine qcw qa 2 h rfl (h.sl 0 rfl).1 (h.sl 0 rfl).2 rfl rfl rfl rfl rfl rfl rfl rfl rfl g1 hx1 rfl fun w6 p7 k6 S3 h=>X0 7 rfl ?_
  replace h:=h.pick [2,3] rfl
  exact rK ⟨_,_,_,_,_,_,hF,rfl,h⟩ rfl
 refine qu rfl ?_
 obtain rfl:=qb hF;replace hF:=hK1
 refine X1 8 1 h rfl ?_
 replace h:=h.nil (α:=ByteArray)
 obtain ⟨o2,hF,hK2⟩:=qc hF
 refine qm (rL (fun m e w'=>∃ (S4:Nat→Prop) (p8:Option Addr) (ln2:Nat) (k7:Nat) (x3:(List ByteArray)) (i2:Int),qbd d m x3 i2=some o2∧e=[(1,.pointer (some ⟨bb1,0,none⟩)),(3,.slice p4 x1.length k4),(4,.slice p8 ln2 k7),(23,.slice p3 d.Aj.length k3),(24,.int .i64 (d.Aj.length:Int)),(25,.int .i64 i2)]∧SH w w' [Ch.own S4 (x3:List ByteArray) [.slice p8 ln2 k7],Ch.own S1 (x1:List ByteArray) [.slice p4 x1.length k4],Ch.box bb1 (qaI d p1 p2 p3 k1 k2 k3) 48]) n ⟨_,_,_,_,_,_,hF,rfl,h⟩ rfl ?_)
 rintro m2 e2 w7 ⟨S4,p8,ln2,k7,x3,i2,hF,rfl,h⟩
 obtain rfl:=(h.sl 0 rfl).2
 rcases m2 with _|m2
 ·cases hF
 refine X0 5 rfl (qh rfl hF ?_ ?_)<;>intro hF
 ·refine zKSBSR ?_
  obtain ⟨y2,hy2,hF,he2,b2,_,q2,cs3,hp2,hq2,hr2,hc4⟩:=s3.ix hF
  obtain rfl:=qa9 hr2
  refine zxe hp2 hq2 he2 rfl (zc 0 (hc4.below h.below) rfl (qj qa h rfl rfl rfl fun w8 bb3 h=>zs 0 h rfl fun w9 h=>X1 5 0 h rfl (qK qa [.tmp 31] _ ([y2.Bb]:List ByteArray) h rfl rfl rfl rfl rfl rfl rfl rfl rfl ⟨rfl,trivial⟩ rfl fun w10 p9 S5 h=>?_)))
  obtain ⟨x4,hx2,hF⟩:=qc hF
  obtain ⟨g2,hx2⟩:=qay hx2
  refine qcw qa 2 h rfl (h.sl 0 rfl).1 (h.sl 0 rfl).2 rfl rfl rfl rfl rfl rfl rfl rfl rfl g2 hx2 rfl fun w11 p10 k8 S6 h=>X0 7 rfl ?_
  replace h:=h.pick [2,3,4] rfl
  exact rK ⟨_,_,_,_,_,_,hF,rfl,h⟩ rfl
 refine qu rfl ?_
 obtain rfl:=qb hF;replace hF:=hK2
 refine X0 6 rfl (qi (t:=38) hF rfl ?_ ?_)<;>intro hF
 ·refine X1 10 2 h rfl (qi (t:=44) hF rfl ?_ ?_)<;>intro hF
  ·refine X0 8 rfl (qi (t:=49) hF rfl ?_ ?_)<;>intro hF
   ·refine X0 3 rfl (zcB h hF (qfd (h.own 1 rfl)) rfl fun r1 w12 h hF=>zp2 rfl (qi (t:=53) hF rfl ?_ ?_))<;>intro hF
    ·refine X1 5 2 h rfl (zcB h hF (qfd ⟨_,_,rfl,(h.oldS s2)⟩) rfl fun r2 w13 h hF=>zp2 rfl (qi (t:=58) hF rfl ?_ ?_))<;>intro hF
     ·exact X0 3 rfl (zcB h hF (qfd (h.own 0 rfl)) rfl fun r3 w14 h hF=>X0 3 rfl (rb h hF rfl))
     exact X0 5 rfl (rb h hF rfl)
    exact X0 10 rfl (rb h hF rfl)
   exact X0 14 rfl (rb h hF rfl)
  exact X0 19 rfl (rb h hF rfl)
 exact X0 25 rfl (rb h hF rfl)
def qf6 (_:Nat) (list:(List qB)):Option Int :=
 some (list.length:Int)
theorem qk8 {list:(List qB)} (ha1:GoT.R w (old w) list cs1) {r:Int} (hF:qf6 n list=some r):RetV Tryz.prog 266 [GoT.v (List qB) cs1] w r:=by
 obtain ⟨p1,k1,rfl,s1⟩:=ha1
 exact zV 5 Tryz.func266 rfl fun h=>X0 10 rfl (ri h hF rfl)
def qhw (_:Nat) (list:(List ByteArray)):Option Int :=
 some (list.length:Int)
theorem qmo {list:(List ByteArray)} (ha1:GoT.R w (old w) list cs1) {r:Int} (hF:qhw n list=some r):RetV Tryz.prog 268 [GoT.v (List ByteArray) cs1] w r:=by
 obtain ⟨p1,k1,rfl,s1⟩:=ha1
 exact zV 5 Tryz.func268 rfl fun h=>X0 10 rfl (ri h hF rfl)
def qdr (n:Nat) (d:qe) (net:Int):Option Bool :=
 (qhw n d.Am).bind fun r1 =>
 (qaG n net 0 (W64 (r1-1))).bind fun r2 =>
 some r2
theorem qgD {d:qe} {net:Int} (ha1:GoT.R w (old w) d cs1) {r:Bool} (hF:qdr n d net=some r):RetV Tryz.prog 242 [GoT.v qe cs1,.int .i64 net] w r:=by
 obtain ⟨p1,k1,p2,k2,p3,k3,rfl,s1,s2,s3⟩:=qau ha1
 exact zV 11 Tryz.func242 rfl fun h=>zSR (qv h rfl rfl fun w1 bb1 h=>X1 7 0 h rfl (zcI h hF (qmo ⟨_,_,rfl,(h.oldS s2)⟩) rfl fun r1 w2 h hF=>zp1 rfl (zcB h hF qav rfl fun r2 w3 h hF=>X0 2 rfl (rb h hF rfl))))
def qdb (n:Nat) (net:Int) (v0:qe):Option Bool :=
 (qdr n v0 net).bind fun r1 =>
 some (!r1)
theorem qjP {net:Int} {v0:qe} {p1:Option Addr} (ha1:GoT.R w (old w) (some v0) [.pointer p1]) {r:Bool} (hF:qdb n net v0=some r):RetV Tryz.prog 267 [.int .i64 net,.pointer p1] w r:=by
 obtain ⟨b1,o_1,cs1,rfl,-,hr1,hc1⟩:=PtR.get ha1 rfl
 obtain ⟨p2,k1,p3,k2,p4,k3,rfl,s1,s2,s3⟩:=qau hr1
 exact zV 8 Tryz.func267 rfl fun h=>X0 6 rfl (zc 0 (hc1.below h.below) rfl (zp1 rfl (zcB h hF (qgD (qao v0 (h.oldS s1) (h.oldS s2) (h.oldS s3))) rfl fun r1 w1 h hF=>X0 3 rfl (rb h hF rfl))))
def qG (s:(List Int)) (f_0:qe):Nat→Int→Option (Flow Int Int)
 | 0,_=>none
 | n+1,i1 =>
  bif decide (i1<(s.length:Int)) then
   (idx s i1).bind fun y1 =>
   (qdb n y1 f_0).bind fun r1 =>
   bif r1 then some (.ret i1) else
   qG s f_0 n (W64 (i1+1))
  else
   some (.nxt i1)
def qaT (n:Nat) (s:(List Int)) (f_0:qe):Option Int :=
 (qG s f_0 n 0).bind fun o=>match o with
 | .ret r=>some r
 | .nxt _ =>
  some (-1)
theorem qej {s:(List Int)} {f_0:qe} (ha1:GoT.R w (old w) s cs1) {p2:Option Addr} (ha2:GoT.R w (old w) (some f_0) [.pointer p2]) {r:Int} (hF:qaT n s f_0=some r):RetV Tryz.prog 162 [GoT.v (List Int) cs1,.func (.func 267) #[] #[.pointer p2]] w r:=by
 obtain ⟨p1,k1,rfl,s1⟩:=ha1
 obtain ⟨b1,o_1,cs2,rfl,-,hr1,hc1⟩:=PtR.get ha2 rfl
 obtain ⟨p3,k2,p4,k3,p5,k4,rfl,s2,s3,s4⟩:=qau hr1
 refine zV 19 Tryz.func162 rfl fun h=>X0 11 rfl ?_
 obtain ⟨o1,hF,hK1⟩:=qc hF
 refine qm (rL (fun m e w'=>∃ (i1:Int),qG s f_0 m i1=some o1∧e=[(0,.slice p1 s.length k1),(1,.func (.func 267) #[] #[.pointer (some ⟨b1,o_1,none⟩)]),(7,.int .i64 (s.length:Int)),(8,.int .i64 i1)]∧SH w w' []) n ⟨_,hF,rfl,h⟩ rfl ?_)
 rintro m1 e1 w1 ⟨i1,hF,rfl,h⟩
 rcases m1 with _|m1
 ·cases hF
 refine X0 5 rfl (qh rfl hF ?_ ?_)<;>intro hF
 ·refine X0 13 rfl ?_
  obtain ⟨y1,hy1,hF,he1,b2,_,q1,cs3,hp1,hq1,rfl,hc3⟩:=s1.ix hF
  refine zxe hp1 hq1 he1 rfl (zc 0 (hc3.below h.below) rfl (zcB h hF (qjP (h.old ha2)) rfl fun r1 w2 h hF=>qcr (qh rfl hF ?_ ?_)))<;>intro hF
  ·refine X0 5 rfl ?_
   obtain rfl:=qb hF;replace hF:=hK1
   exact ri h hF rfl
  exact X0 6 rfl (rK ⟨_,hF,rfl,h⟩ rfl)
 refine qu rfl ?_
 obtain rfl:=qb hF;replace hF:=hK1
 exact X0 4 rfl (ri h hF rfl)
def qaL (n:Nat) (s:(List Int)) (f_0:qe):Option Bool :=
 (qaT n s f_0).bind fun r1 =>
 some (decide (r1 ≥ 0))
theorem qdJ {s:(List Int)} {f_0:qe} (ha1:GoT.R w (old w) s cs1) {p2:Option Addr} (ha2:GoT.R w (old w) (some f_0) [.pointer p2]) {r:Bool} (hF:qaL n s f_0=some r):RetV Tryz.prog 110 [GoT.v (List Int) cs1,.func (.func 267) #[] #[.pointer p2]] w r:=by
 obtain ⟨p1,k1,rfl,s1⟩:=ha1
 obtain ⟨b1,o_1,cs2,rfl,-,hr1,hc1⟩:=PtR.get ha2 rfl
 obtain ⟨p3,k2,p4,k3,p5,k4,rfl,s2,s3,s4⟩:=qau hr1
 exact zV 9 Tryz.func110 rfl fun h=>X0 8 rfl (zcI h hF (qej ⟨_,_,rfl,(h.oldS s1)⟩ (h.old ha2)) rfl fun r1 w1 h hF=>X0 3 rfl (rb h hF rfl))
def qdU (n:Nat) (d:qe) (l:qq) (x:qp):Option Bool :=
 (qf6 n l.Aq).bind fun r1 =>
 (qaG n x.Bs 0 (W64 (r1-1))).bind fun r2 =>
 bif r2 then
  (idx l.Aq x.Bs).bind fun y1 =>
  bif ((x.Am.length:Int)==(y1.Be.length:Int)) then
   (qaL n x.Am d).bind fun r3 =>
   some (!r3)
  else
   some false
 else
  some false
theorem qkB {d:qe} {l:qq} {x:qp} (ha1:GoT.R w (old w) d cs1) (ha2:GoT.R w (old w) l cs2) (ha3:GoT.R w (old w) x cs3) {r:Bool} (hF:qdU n d l x=some r):RetV Tryz.prog 241 [GoT.v qe cs1,GoT.v qq cs2,GoT.v qp cs3] w r:=by
 obtain ⟨p1,k1,p2,k2,p3,k3,rfl,s1,s2,s3⟩:=qau ha1
 obtain ⟨p4,k4,rfl,s4⟩:=qbA ha2
 obtain ⟨p5,k5,rfl,s5⟩:=qN ha3
 refine zV 35 Tryz.func241 rfl fun h=>zSR (qv h rfl rfl fun w1 bb1 h=>qv h rfl rfl fun w2 bb2 h=>qv h rfl rfl fun w3 bb3 h=>X0 3 rfl (rD (Y1 2 0 h rfl ?_)))
 refine Y1 2 1 h rfl ?_
 obtain ⟨r1,hr1,hF⟩:=qc hF
 refine qbj r1 (vsI _) (cB 266 rfl) (fun _ hb=>qk8 ⟨_,_,rfl,((h.ext hb).oldS s4)⟩ hr1) rfl rfl rfl rfl (zd1 rfl ?_)
 obtain ⟨r2,hr2,hF⟩:=qc hF
 refine qbj r2 (vsB _) (cB 159 rfl) (fun _ hb=>qav  hr2) rfl rfl rfl rfl (zd1 rfl (qaJ (t:=14) hF rfl ?_ ?_))<;>intro hF
 ·refine Y1 4 0 h rfl ?_
  refine Y1 6 1 h rfl ?_
  refine Y1 4 0 h rfl ?_
  refine Y0 1 rfl ?_
  obtain ⟨y1,hy1,hF,he1,b1,_,q1,cs4,hp1,hq1,hr3,hc1⟩:=s4.ix hF
  obtain ⟨p6,k6,p7,k7,p8,k8,rfl,s6,s7,s8⟩:=qac hr3
  refine zdxe hp1 hq1 he1 rfl (Y0 3 rfl (zdc 2 (hc1.below h.below) rfl (Y0 6 rfl (qaJ (t:=28) hF rfl ?_ ?_))))<;>intro hF
  ·refine Y1 4 0 h rfl ?_
   refine Y0 3 rfl ?_
   obtain ⟨r3,hr4,hF⟩:=qc hF
   exact qbj r3 (vsB _) (cB 110 rfl) (fun _ hb=>qdJ ⟨_,_,rfl,((h.ext hb).oldS s5)⟩ (qgy (x:=d) 2 (h.ext hb) rfl ((h.ext hb).old ha1)) hr4) rfl rfl rfl rfl (Y0 4 rfl (dN h fun w4 h=>rb h hF rfl))
  exact Y0 7 rfl (dN h fun w5 h=>rb h hF rfl)
 exact Y0 21 rfl (dN h fun w6 h=>rb h hF rfl)
def qju (_:Nat) (a_n:Int):Option Bool :=
 some (a_n != 1)
theorem qnA {a_n:Int}  {r:Bool} (hF:qju n a_n=some r):RetV Tryz.prog 244 [.int .i64 a_n] w r:=by
 exact zV 5 Tryz.func244 rfl fun h=>X0 10 rfl (rb h hF rfl)
def qaj (s:(List Int)):Nat→Int→Option (Flow Int Int)
 | 0,_=>none
 | n+1,i1 =>
  bif decide (i1<(s.length:Int)) then
   (idx s i1).bind fun y1 =>
   (qju n y1).bind fun r1 =>
   bif r1 then some (.ret i1) else
   qaj s n (W64 (i1+1))
  else
   some (.nxt i1)
def qbY (n:Nat) (s:(List Int)):Option Int :=
 (qaj s n 0).bind fun o=>match o with
 | .ret r=>some r
 | .nxt _ =>
  some (-1)
theorem qgf {s:(List Int)} (ha1:GoT.R w (old w) s cs1) {r:Int} (hF:qbY n s=some r):RetV Tryz.prog 269 [GoT.v (List Int) cs1,.func (.func 244) #[] #[]] w r:=by
 obtain ⟨p1,k1,rfl,s1⟩:=ha1
 refine zV 19 Tryz.func269 rfl fun h=>X0 11 rfl ?_
 obtain ⟨o1,hF,hK1⟩:=qc hF
 refine qm (rL (fun m e w'=>∃ (i1:Int),qaj s m i1=some o1∧e=[(0,.slice p1 s.length k1),(1,.func (.func 244) #[] #[]),(7,.int .i64 (s.length:Int)),(8,.int .i64 i1)]∧SH w w' []) n ⟨_,hF,rfl,h⟩ rfl ?_)
 rintro m1 e1 w1 ⟨i1,hF,rfl,h⟩
 rcases m1 with _|m1
 ·cases hF
 refine X0 5 rfl (qh rfl hF ?_ ?_)<;>intro hF
 ·refine X0 13 rfl ?_
  obtain ⟨y1,hy1,hF,he1,b1,_,q1,cs2,hp1,hq1,rfl,hc2⟩:=s1.ix hF
  refine zxe hp1 hq1 he1 rfl (zc 0 (hc2.below h.below) rfl (zcB h hF qnA rfl fun r1 w2 h hF=>qcr (qh rfl hF ?_ ?_)))<;>intro hF
  ·refine X0 5 rfl ?_
   obtain rfl:=qb hF;replace hF:=hK1
   exact ri h hF rfl
  exact X0 6 rfl (rK ⟨_,hF,rfl,h⟩ rfl)
 refine qu rfl ?_
 obtain rfl:=qb hF;replace hF:=hK1
 exact X0 4 rfl (ri h hF rfl)
def qbI (n:Nat) (s:(List Int)):Option Bool :=
 (qbY n s).bind fun r1 =>
 some (decide (r1 ≥ 0))
theorem qfz {s:(List Int)} (ha1:GoT.R w (old w) s cs1) {r:Bool} (hF:qbI n s=some r):RetV Tryz.prog 243 [GoT.v (List Int) cs1,.func (.func 244) #[] #[]] w r:=by
 obtain ⟨p1,k1,rfl,s1⟩:=ha1
 exact zV 9 Tryz.func243 rfl fun h=>X0 8 rfl (zcI h hF (qgf ⟨_,_,rfl,(h.oldS s1)⟩) rfl fun r1 w1 h hF=>X0 3 rfl (rb h hF rfl))
def qci (a_1:qe):Nat→(List Int)→Int→Option (Flow Bool ((List Int) × Int))
 | 0,_,_=>none
 | n+1,x3,i2 =>
  bif decide (i2<(a_1.Aj.length:Int)) then
   (idx a_1.Aj i2).bind fun y5 =>
   (
    bif (y5.Bv != 1) then
     bif (y5.Bv != 2) then some true else
     (qdr n a_1 y5.Bx).bind fun r2 =>
     some (!r2)
    else
     (qdr n a_1 y5.Bx).bind fun r3 =>
     some (!r3)).bind fun b7 =>
   bif b7 then some (.ret false) else
   bif (y5.Bv==1) then
    (idx x3 y5.Bx).bind fun y6 =>
    (idx x3 y5.Bx).bind fun _ =>
    qci a_1 n (setS x3 y5.Bx (W64 (y6+1))) (W64 (i2+1))
   else
    qci a_1 n x3 (W64 (i2+1))
  else
   some (.nxt (x3,i2))
def qcX (a_0:qq) (a_1:qe):Nat→(List Int)→Int→Option (Flow Bool ((List Int) × Int))
 | 0,_,_=>none
 | n+1,x2,i1 =>
  bif decide (i1<(a_1.Aa.length:Int)) then
   (idx a_1.Aa i1).bind fun y1 =>
   (qdU n a_1 a_0 y1).bind fun r1 =>
   bif (!r1) then some (.ret false) else
   (idx y1.Am (W64 ((y1.Am.length:Int)-1))).bind fun y2 =>
   (idx x2 y2).bind fun y3 =>
   (idx x2 y2).bind fun _ =>
   qcX a_0 a_1 n (setS x2 y2 (W64 (y3+1))) (W64 (i1+1))
  else
   some (.nxt (x2,i1))
def qiU (n:Nat) (a_0:qq) (a_1:qe):Option Bool :=
 (
  (qhN n a_0).bind fun r5 =>
  bif (!r5) then some true else
  (qeL n a_1).bind fun r6 =>
  some (!r6)).bind fun b1 =>
 bif b1 then some false else
 (mkS (a_1.Am.length:Int) (0:Int)).bind fun x1 =>
 (qcX a_0 a_1 n x1 0).bind fun o=>match o with
 | .ret r=>some r
 | .nxt (x2,_) =>
  (qci a_1 n x2 0).bind fun o=>match o with
  | .ret r=>some r
  | .nxt (x3,_) =>
   (qbI n x3).bind fun r4 =>
   some (!r4)
theorem qoF {a_0:qq} {a_1:qe} (ha1:GoT.R w (old w) a_0 cs1) (ha2:GoT.R w (old w) a_1 cs2) {r:Bool} (hF:qiU n a_0 a_1=some r):RetV Tryz.prog 211 [GoT.v qq cs1,GoT.v qe cs2] w r:=by
 obtain ⟨p1,k1,rfl,s1⟩:=qbA ha1
 obtain ⟨p2,k2,p3,k3,p4,k4,rfl,s2,s3,s4⟩:=qau ha2
 refine zV 84 Tryz.func211 rfl fun h=>zSR (qv h rfl rfl fun w1 bb1 h=>qv h rfl rfl fun w2 bb2 h=>X0 4 rfl ?_)
 obtain ⟨KF2,hKF2,o4,hF,hK4⟩:=bindE hF
 refine qbl (fun e w'=>∃ (b1:Bool),KF2 b1=some r∧e=[(2,.pointer (some ⟨bb1,0,none⟩)),(3,.pointer (some ⟨bb2,0,none⟩)),(17,.bool b1)]∧SH w w' [Ch.box bb2 (qaI a_1 p2 p3 p4 k2 k3 k4) 48,Ch.box bb1 [.slice p1 a_0.Aq.length k1] 44]) ?_ ?_
 ·refine X1 2 1 h rfl (zcB h hF (qoj (h.old ha1)) rfl fun r5 w17 h hF=>zp2 rfl (qi (t:=13) hF rfl ?_ ?_))<;>intro hF
  ·refine X0 5 rfl ?_
   obtain rfl:=qb hF
   exact rG ⟨_,hK4,rfl,h⟩ rfl
  refine X1 3 0 h rfl (zcB h hF (qlr (h.old ha2)) rfl fun r6 w18 h hF=>X0 4 rfl ?_)
  obtain rfl:=qb hF
  exact rG ⟨_,hK4,rfl,h⟩ rfl
 rintro e4 w19 ⟨b1,hF,rfl,h⟩
 subst hKF2
 refine qh rfl hF ?_ ?_<;>intro hF
 ·exact X0 4 rfl (rb h hF rfl)
 refine X1 6 0 h rfl ?_
 obtain ⟨x1,hx1,hF⟩:=qc hF
 obtain ⟨g1,g2,hx1⟩:=qO hx1
 refine qai qa Int h rfl rfl rfl rfl rfl rfl rfl rfl rfl g1 g2 hx1 rfl fun w3 S1 p5 h=>X1 10 1 h rfl ?_
 obtain ⟨o1,hF,hK1⟩:=qc hF
 refine qm (rL (fun m e w'=>∃ (x2:(List Int)) (i1:Int),qcX a_0 a_1 m x2 i1=some o1∧e=[(2,.pointer (some ⟨bb1,0,none⟩)),(3,.pointer (some ⟨bb2,0,none⟩)),(5,.slice p5 x1.length x1.length),(23,.slice p2 a_1.Aa.length k2),(24,.int .i64 (a_1.Aa.length:Int)),(25,.int .i64 i1)]∧SH w w' [Ch.own S1 (x2:List Int) [.slice p5 x1.length x1.length],Ch.box bb2 (qaI a_1 p2 p3 p4 k2 k3 k4) 48,Ch.box bb1 [.slice p1 a_0.Aq.length k1] 44]) n ⟨_,_,hF,rfl,h⟩ rfl ?_)
 rintro m1 e1 w4 ⟨x2,i1,hF,rfl,h⟩
 rcases m1 with _|m1
 ·cases hF
 refine X0 5 rfl (qh rfl hF ?_ ?_)<;>intro hF
 ·refine zKSBSR ?_
  obtain ⟨y1,hy1,hF,he1,b2,_,q1,cs3,hp1,hq1,hr1,hc3⟩:=s2.ix hF
  obtain ⟨p6,k5,rfl,s5⟩:=qN hr1
  refine zxe hp1 hq1 he1 rfl (zc 0 (hc3.below h.below) rfl (qj qa h rfl rfl rfl fun w5 bb3 h=>zs 0 h rfl fun w6 h=>X3 7 2 3 0 h rfl (zcB h hF (qkB (h.old ha2) (h.old ha1) (qfY y1 (h.oldS s5))) rfl fun r1 w7 h hF=>X0 2 rfl (qh rfl hF ?_ ?_))))<;>intro hF
  ·refine X0 4 rfl ?_
   obtain rfl:=qb hF;replace hF:=hK1
   exact rb h hF rfl
  refine X2 9 0 0 h rfl ?_
  obtain ⟨y2,hy2,hF,he2,b3,_,q2,cs4,hp2,hq2,rfl,hc5⟩:=s5.ix hF
  refine zxe hp2 hq2 he2 rfl (zc 0 (hc5.below h.below) rfl ?_)
  obtain ⟨y3,hy3,hF,he3,b4,_,q3,cs5,hp3,hq3,rfl,hc6⟩:=(h.sl 1 rfl).1.ix hF
  refine zx hp3 hq3 ⟨he3.1,qV he3.2.1 (h.sl 1 rfl).2⟩ rfl (zc 0 hc6 rfl (zp1 rfl ?_))
  obtain ⟨y4,hy4,hF,he4,b5,_,q4,cs6,hp4,hq4,rfl,hc7⟩:=(h.sl 1 rfl).1.ix hF
  refine zx hp4 hq4 ⟨he4.1,qV he4.2.1 (h.sl 1 rfl).2⟩ rfl (qbw qa 1 0 (W64 (y3+1)) h rfl hy4 hp4 hq4 rfl hc7 rfl rfl rfl rfl rfl rfl rfl fun w8 h=>X0 6 rfl ?_)
  replace h:=h.pick [1,2,3] rfl
  exact rK ⟨_,_,hF,rfl,h⟩ rfl
 refine qu rfl ?_
 obtain rfl:=qb hF;replace hF:=hK1
 refine X1 8 1 h rfl ?_
 obtain ⟨o2,hF,hK2⟩:=qc hF
 refine qm ?_
 replace h:=h.pick [0,1] rfl
 refine rL (fun m e w'=>∃ (x3:(List Int)) (i2:Int),qci a_1 m x3 i2=some o2∧e=[(3,.pointer (some ⟨bb2,0,none⟩)),(5,.slice p5 x1.length x1.length),(49,.slice p4 a_1.Aj.length k4),(50,.int .i64 (a_1.Aj.length:Int)),(51,.int .i64 i2)]∧SH w w' [Ch.own S1 (x3:List Int) [.slice p5 x1.length x1.length],Ch.box bb2 (qaI a_1 p2 p3 p4 k2 k3 k4) 48]) n ⟨_,_,hF,rfl,h⟩ rfl ?_
 rintro m2 e2 w9 ⟨x3,i2,hF,rfl,h⟩
 rcases m2 with _|m2
 ·cases hF
 refine X0 5 rfl (qh rfl hF ?_ ?_)<;>intro hF
 ·refine zKSBSR ?_
  obtain ⟨y5,hy5,hF,he5,b6,_,q5,cs7,hp5,hq5,hr6,hc9⟩:=s4.ix hF
  obtain rfl:=qa9 hr6
  refine zxe hp5 hq5 he5 rfl (zc 0 (hc9.below h.below) rfl (qj qa h rfl rfl rfl fun w10 bb4 h=>zs 0 h rfl fun w11 h=>zNSS ?_))
  obtain ⟨KF1,hKF1,o3,hF,hK3⟩:=bindE hF
  refine qbl (fun e w'=>∃ (b7:Bool),KF1 b7=some o2∧e=[(3,.pointer (some ⟨bb2,0,none⟩)),(5,.slice p5 x1.length x1.length),(9,.pointer (some ⟨bb4,0,none⟩)),(49,.slice p4 a_1.Aj.length k4),(50,.int .i64 (a_1.Aj.length:Int)),(51,.int .i64 i2),(69,.bool b7)]∧SH w w' [Ch.box bb4 (qpS y5) 245,Ch.own S1 (x3:List Int) [.slice p5 x1.length x1.length],Ch.box bb2 (qaI a_1 p2 p3 p4 k2 k3 k4) 48]) ?_ ?_
  ·refine X1 5 0 h rfl (qi (t:=58) hF rfl ?_ ?_)<;>intro hF
   ·refine X1 8 0 h rfl (qi (t:=63) hF rfl ?_ ?_)<;>intro hF
    ·refine X0 7 rfl ?_
     obtain rfl:=qb hF
     exact rG ⟨_,hK3,rfl,h⟩ rfl
    refine X2 7 2 0 h rfl (zcB h hF (qgD (h.old ha2)) rfl fun r2 w13 h hF=>X0 4 rfl ?_)
    obtain rfl:=qb hF
    exact rG ⟨_,hK3,rfl,h⟩ rfl
   refine X2 12 2 0 h rfl (zcB h hF (qgD (h.old ha2)) rfl fun r3 w14 h hF=>X0 4 rfl ?_)
   obtain rfl:=qb hF
   exact rG ⟨_,hK3,rfl,h⟩ rfl
  rintro e3 w15 ⟨b7,hF,rfl,h⟩
  subst hKF1
  refine qh rfl hF ?_ ?_<;>intro hF
  ·refine X0 4 rfl ?_
   obtain rfl:=qb hF;replace hF:=hK2
   exact rb h hF rfl
  refine X1 7 0 h rfl (qh rfl hF ?_ ?_)<;>intro hF
  ·refine X1 4 0 h rfl ?_
   obtain ⟨y6,hy6,hF,he6,b8,_,q6,cs8,hp6,hq6,rfl,hc12⟩:=(h.sl 1 rfl).1.ix hF
   refine zx hp6 hq6 ⟨he6.1,qV he6.2.1 (h.sl 1 rfl).2⟩ rfl (zc 0 hc12 rfl (zp1 rfl ?_))
   obtain ⟨y7,hy7,hF,he7,b9,_,q7,cs9,hp7,hq7,rfl,hc13⟩:=(h.sl 1 rfl).1.ix hF
   refine zx hp7 hq7 ⟨he7.1,qV he7.2.1 (h.sl 1 rfl).2⟩ rfl (qbw qa 1 0 (W64 (y6+1)) h rfl hy7 hp7 hq7 rfl hc13 rfl rfl rfl rfl rfl rfl rfl fun w12 h=>X0 6 rfl ?_)
   replace h:=h.pick [1,2] rfl
   exact rK ⟨_,_,hF,rfl,h⟩ rfl
  refine X0 6 rfl ?_
  replace h:=h.pick [1,2] rfl
  exact rK ⟨_,_,hF,rfl,h⟩ rfl
 refine qu rfl ?_
 obtain rfl:=qb hF;replace hF:=hK2
 exact X0 3 rfl (zcB h hF (qfz (h.own 0 rfl)) rfl fun r4 w16 h hF=>X0 3 rfl (rb h hF rfl))
def qbB (i1:Int) (y1:qp):Nat→(List Tplace)→Int→Option ((List Tplace) × Int)
 | 0,_,_=>none
 | n+1,x2,i2 =>
  bif decide (i2<(y1.Am.length:Int)) then
   (idx y1.Am i2).bind fun y2 =>
   (appS x2 ([(⟨i1,i2,y2,(i2==(W64 ((y1.Am.length:Int)-1)))⟩:Tplace)]:List Tplace)).bind fun x3 =>
   qbB i1 y1 n x3 (W64 (i2+1))
  else
   some (x2,i2)
def qbG (d:qe):Nat→(List Tplace)→Int→Option ((List Tplace) × Int)
 | 0,_,_=>none
 | n+1,x4,i3 =>
  bif decide (i3<(d.Aj.length:Int)) then
   (idx d.Aj i3).bind fun y3 =>
   (appS x4 ([(⟨(-1),i3,y3.Bx,(y3.Bv==1)⟩:Tplace)]:List Tplace)).bind fun x5 =>
   qbG d n x5 (W64 (i3+1))
  else
   some (x4,i3)
def qbD (d:qe):Nat→(List Tplace)→Int→Option ((List Tplace) × Int)
 | 0,_,_=>none
 | n+1,x1,i1 =>
  bif decide (i1<(d.Aa.length:Int)) then
   (idx d.Aa i1).bind fun y1 =>
   (qbB i1 y1 n x1 0).bind fun o=>match o with
   | (x2,_) =>
    qbD d n x2 (W64 (i1+1))
  else
   some (x1,i1)
def qcf (n:Nat) (d:qe):Option (List Tplace) :=
 (qbD d n ([]:List Tplace) 0).bind fun o=>match o with
 | (x1,_) =>
  (qbG d n x1 0).bind fun o=>match o with
  | (x4,_) =>
   some x4
theorem qen {d:qe} (ha1:GoT.R w (old w) d cs1) {r:(List Tplace)} (hF:qcf n d=some r):RetV Tryz.prog 212 [GoT.v qe cs1] w r:=by
 obtain ⟨p1,k1,p2,k2,p3,k3,rfl,s1,s2,s3⟩:=qau ha1
 refine zV 61 Tryz.func212 rfl fun h=>zSR (qv h rfl rfl fun w1 bb1 h=>X1 14 0 h rfl ?_)
 replace h:=h.nil (α:=Tplace)
 obtain ⟨o1,hF,hK1⟩:=qc hF
 refine qm (rL (fun m e w'=>∃ (S1:Nat→Prop) (p4:Option Addr) (ln1:Nat) (k4:Nat) (x1:(List Tplace)) (i1:Int),qbD d m x1 i1=some o1∧e=[(1,.pointer (some ⟨bb1,0,none⟩)),(3,.slice p4 ln1 k4),(11,.slice p1 d.Aa.length k1),(12,.int .i64 (d.Aa.length:Int)),(13,.int .i64 i1)]∧SH w w' [Ch.own S1 (x1:List Tplace) [.slice p4 ln1 k4],Ch.box bb1 (qaI d p1 p2 p3 k1 k2 k3) 48]) n ⟨_,_,_,_,_,_,hF,rfl,h⟩ rfl ?_)
 rintro m1 e1 w2 ⟨S1,p4,ln1,k4,x1,i1,hF,rfl,h⟩
 obtain rfl:=(h.sl 0 rfl).2
 rcases m1 with _|m1
 ·cases hF
 refine X0 5 rfl (qh rfl hF ?_ ?_)<;>intro hF
 ·refine X0 6 rfl ?_
  obtain ⟨y1,hy1,hF,he1,b1,_,q1,cs2,hp1,hq1,hr1,hc2⟩:=s1.ix hF
  obtain ⟨p5,k5,rfl,s4⟩:=qN hr1
  refine zxe hp1 hq1 he1 rfl (zc 0 (hc2.below h.below) rfl (qj qa h rfl rfl rfl fun w3 bb2 h=>zp1 rfl (zs 0 h rfl fun w4 h=>X1 8 0 h rfl ?_)))
  obtain ⟨o2,hF,hK2⟩:=qc hF
  refine qm (rL (fun m e w'=>∃ (S2:Nat→Prop) (p6:Option Addr) (ln2:Nat) (k6:Nat) (x2:(List Tplace)) (i2:Int),qbB i1 y1 m x2 i2=some o2∧e=[(1,.pointer (some ⟨bb1,0,none⟩)),(3,.slice p6 ln2 k6),(4,.int .i64 i1),(5,.pointer (some ⟨bb2,0,none⟩)),(11,.slice p1 d.Aa.length k1),(12,.int .i64 (d.Aa.length:Int)),(13,.int .i64 i1),(19,.slice p5 y1.Am.length k5),(20,.int .i64 (y1.Am.length:Int)),(21,.int .i64 i2)]∧SH w w' [Ch.box bb2 (qjj y1 p5 k5) 170,Ch.own S2 (x2:List Tplace) [.slice p6 ln2 k6],Ch.box bb1 (qaI d p1 p2 p3 k1 k2 k3) 48]) m1 ⟨_,_,_,_,_,_,hF,rfl,h⟩ rfl ?_)
  rintro m2 e2 w5 ⟨S2,p6,ln2,k6,x2,i2,hF,rfl,h⟩
  obtain rfl:=(h.sl 1 rfl).2
  rcases m2 with _|m2
  ·cases hF
  refine X0 5 rfl (qh rfl hF ?_ ?_)<;>intro hF
  ·refine X0 6 rfl ?_
   obtain ⟨y2,hy2,hF,he2,b2,_,q2,cs3,hp2,hq2,rfl,hc4⟩:=s4.ix hF
   refine zxe hp2 hq2 he2 rfl (zc 0 (hc4.below h.below) rfl (X1 14 0 h rfl (r_v (qY qa [0,1,2,3] [.tmp 27,.tmp 28,.tmp 29,.tmp 35] rfl rfl rfl rfl rfl rfl rfl rfl) rfl (qK qa [.tmp 36] _ ([(⟨i1,i2,y2,(i2==(W64 ((y1.Am.length:Int)-1)))⟩:Tplace)]:List Tplace) h rfl rfl rfl rfl rfl rfl rfl rfl rfl ⟨(ql3 (⟨i1,i2,y2,(i2==(W64 ((y1.Am.length:Int)-1)))⟩:Tplace)),trivial⟩ rfl fun w6 p7 S3 h=>?_))))
   obtain ⟨x3,hx1,hF⟩:=qc hF
   obtain ⟨g1,hx1⟩:=qay hx1
   refine qcw qa 2 h rfl (h.sl 0 rfl).1 (h.sl 0 rfl).2 rfl rfl rfl rfl rfl rfl rfl rfl rfl g1 hx1 rfl fun w7 p8 k7 S4 h=>X0 7 rfl ?_
   replace h:=h.pick [1,2,3] rfl
   exact rK ⟨_,_,_,_,_,_,hF,rfl,h⟩ rfl
  refine qu rfl ?_
  obtain rfl:=qb hF;replace hF:=hK2
  refine X0 5 rfl ?_
  replace h:=h.pick [1,2] rfl
  exact rK ⟨_,_,_,_,_,_,hF,rfl,h⟩ rfl
 refine qu rfl ?_
 obtain rfl:=qb hF;replace hF:=hK1
 refine X1 8 1 h rfl ?_
 obtain ⟨o3,hF,hK3⟩:=qc hF
 refine qm ?_
 replace h:=h.pick [0] rfl
 refine rL (fun m e w'=>∃ (S5:Nat→Prop) (p9:Option Addr) (ln3:Nat) (k8:Nat) (x4:(List Tplace)) (i3:Int),qbG d m x4 i3=some o3∧e=[(3,.slice p9 ln3 k8),(42,.slice p3 d.Aj.length k3),(43,.int .i64 (d.Aj.length:Int)),(44,.int .i64 i3)]∧SH w w' [Ch.own S5 (x4:List Tplace) [.slice p9 ln3 k8]]) n ⟨_,_,_,_,_,_,hF,rfl,h⟩ rfl ?_
 rintro m3 e3 w8 ⟨S5,p9,ln3,k8,x4,i3,hF,rfl,h⟩
 obtain rfl:=(h.sl 0 rfl).2
 rcases m3 with _|m3
 ·cases hF
 refine X0 5 rfl (qh rfl hF ?_ ?_)<;>intro hF
 ·refine X0 6 rfl ?_
  obtain ⟨y3,hy3,hF,he3,b3,_,q3,cs4,hp3,hq3,hr3,hc6⟩:=s3.ix hF
  obtain rfl:=qa9 hr3
  refine zxe hp3 hq3 he3 rfl (zc 0 (hc6.below h.below) rfl (qj qa h rfl rfl rfl fun w9 bb3 h=>zp1 rfl (zs 0 h rfl fun w10 h=>X2 9 0 0 h rfl (r_v (qY qa [0,1,2,3] [.const (.int .i64 (-1)),.tmp 50,.tmp 52,.tmp 55] rfl rfl rfl rfl rfl rfl rfl rfl) rfl (qK qa [.tmp 56] _ ([(⟨(-1),i3,y3.Bx,(y3.Bv==1)⟩:Tplace)]:List Tplace) h rfl rfl rfl rfl rfl rfl rfl rfl rfl ⟨(ql3 (⟨(-1),i3,y3.Bx,(y3.Bv==1)⟩:Tplace)),trivial⟩ rfl fun w11 p10 S6 h=>?_)))))
  obtain ⟨x5,hx2,hF⟩:=qc hF
  obtain ⟨g2,hx2⟩:=qay hx2
  refine qcw qa 2 h rfl (h.sl 0 rfl).1 (h.sl 0 rfl).2 rfl rfl rfl rfl rfl rfl rfl rfl rfl g2 hx2 rfl fun w12 p11 k9 S7 h=>X0 7 rfl ?_
  replace h:=h.pick [2] rfl
  exact rK ⟨_,_,_,_,_,_,hF,rfl,h⟩ rfl
 refine qu rfl ?_
 obtain rfl:=qb hF;replace hF:=hK3
 refine X0 5 rfl ?_
 obtain rfl:=qb hF
 exact rO 0 h rfl ⟨rfl,trivial⟩
def qa6 (a_w:qQ):Nat→Int→Option (Flow Bool Int)
 | 0,_=>none
 | n+1,i1 =>
  bif decide (i1<(a_w.Ak.length:Int)) then
   (idx a_w.Ak i1).bind fun y1 =>
   bif (i1==0) then
    bif (y1 != (-1)) then some (.ret false) else
    (idx a_w.Bw 0).bind fun y2 =>
    bif (y2 != 0) then some (.ret false) else
    bif decide (i1 > 0) then
     (qaG n y1 0 (W64 (i1-1))).bind fun r1 =>
     bif (!r1) then some (.ret false) else
     qa6 a_w n (W64 (i1+1))
    else
     qa6 a_w n (W64 (i1+1))
   else
    bif decide (i1 > 0) then
     (qaG n y1 0 (W64 (i1-1))).bind fun r2 =>
     bif (!r2) then some (.ret false) else
     qa6 a_w n (W64 (i1+1))
    else
     qa6 a_w n (W64 (i1+1))
  else
   some (.nxt i1)
def qgN (n:Nat) (a_w:qQ):Option Bool :=
 (qa6 a_w n 0).bind fun o=>match o with
 | .ret r=>some r
 | .nxt _ =>
  some true
theorem qnv {a_w:qQ} (ha1:GoT.R w (old w) a_w cs1) {r:Bool} (hF:qgN n a_w=some r):RetV Tryz.prog 245 [GoT.v qQ cs1] w r:=by
 obtain ⟨p1,k1,p2,k2,p3,k3,p4,k4,rfl,s1,s2,s3,s4⟩:=qaK ha1
 refine zV 38 Tryz.func245 rfl fun h=>zSR (qv h rfl rfl fun w1 bb1 h=>X1 10 0 h rfl ?_)
 obtain ⟨o1,hF,hK1⟩:=qc hF
 refine qm (rL (fun m e w'=>∃ (i1:Int),qa6 a_w m i1=some o1∧e=[(1,.pointer (some ⟨bb1,0,none⟩)),(6,.slice p1 a_w.Ak.length k1),(7,.int .i64 (a_w.Ak.length:Int)),(8,.int .i64 i1)]∧SH w w' [Ch.box bb1 (qgd a_w p1 p2 p3 p4 k1 k2 k3 k4) 186]) n ⟨_,hF,rfl,h⟩ rfl ?_)
 rintro m1 e1 w2 ⟨i1,hF,rfl,h⟩
 rcases m1 with _|m1
 ·cases hF
 refine X0 5 rfl (qh rfl hF ?_ ?_)<;>intro hF
 ·refine X0 6 rfl ?_
  obtain ⟨y1,hy1,hF,he1,b1,_,q1,cs2,hp1,hq1,rfl,hc2⟩:=s1.ix hF
  refine zxe hp1 hq1 he1 rfl (zc 0 (hc2.below h.below) rfl (X0 8 rfl (qi (t:=15) hF rfl ?_ ?_)))<;>intro hF
  ·refine X0 6 rfl (qi (t:=18) hF rfl ?_ ?_)<;>intro hF
   ·refine X0 20 rfl (qbU rfl rfl (X0 4 rfl ?_))
    obtain rfl:=qb hF;replace hF:=hK1
    exact rb h hF rfl
   refine X1 5 0 h rfl ?_
   obtain ⟨y2,hy2,hF,he2,b2,_,q2,cs3,hp2,hq2,rfl,hc3⟩:=s2.ix hF
   refine zxe hp2 hq2 he2 rfl (X0 1 rfl (zc 0 (hc3.below h.below) rfl (X0 6 rfl (qi (t:=26) hF rfl ?_ ?_))))<;>intro hF
   ·refine X0 11 rfl (qbU rfl rfl (X0 4 rfl ?_))
    obtain rfl:=qb hF;replace hF:=hK1
    exact rb h hF rfl
   refine X0 6 rfl (qi (t:=29) hF rfl ?_ ?_)<;>intro hF
   ·refine X0 7 rfl (zcB h hF qav rfl fun r1 w3 h hF=>X0 6 rfl (qh rfl hF ?_ ?_))<;>intro hF
    ·refine X0 4 rfl ?_
     obtain rfl:=qb hF;replace hF:=hK1
     exact rb h hF rfl
    exact X0 6 rfl (rK ⟨_,hF,rfl,h⟩ rfl)
   exact X0 9 rfl (qbV rfl rfl (X0 6 rfl (rK ⟨_,hF,rfl,h⟩ rfl)))
  refine X0 17 rfl (qi (t:=29) hF rfl ?_ ?_)<;>intro hF
  ·refine X0 7 rfl (zcB h hF qav rfl fun r2 w4 h hF=>X0 6 rfl (qh rfl hF ?_ ?_))<;>intro hF
   ·refine X0 4 rfl ?_
    obtain rfl:=qb hF;replace hF:=hK1
    exact rb h hF rfl
   exact X0 6 rfl (rK ⟨_,hF,rfl,h⟩ rfl)
  exact X0 9 rfl (qbV rfl rfl (X0 6 rfl (rK ⟨_,hF,rfl,h⟩ rfl)))
 refine qu rfl ?_
 obtain rfl:=qb hF;replace hF:=hK1
 exact X0 4 rfl (rb h hF rfl)
def qk4 (n:Nat) (a_w:qQ) (sinks:Int):Option Bool :=
 (qbm n a_w.Ak).bind fun r1 =>
 (qaG n r1 1 8).bind fun r2 =>
 bif r2 then
  (qbm n a_w.Bw).bind fun r3 =>
  bif (r3==r1) then
   (qbm n a_w.Bt).bind fun r4 =>
   bif (r4==r1) then
    (qgN n a_w).bind fun r5 =>
    bif r5 then
     (qbK n a_w.Bw 0 1000).bind fun r6 =>
     bif r6 then
      (qbK n a_w.Bt 0 500).bind fun r7 =>
      bif r7 then
       (qbm n a_w.Bl).bind fun r8 =>
       bif (r8==sinks) then
        (qbK n a_w.Bl 0 (W64 (r1-1))).bind fun r9 =>
        some r9
       else
        some false
      else
       some false
     else
      some false
    else
     some false
   else
    some false
  else
   some false
 else
  some false
theorem qqI {a_w:qQ} {sinks:Int} (ha1:GoT.R w (old w) a_w cs1) {r:Bool} (hF:qk4 n a_w sinks=some r):RetV Tryz.prog 213 [GoT.v qQ cs1,.int .i64 sinks] w r:=by
 obtain ⟨p1,k1,p2,k2,p3,k3,p4,k4,rfl,s1,s2,s3,s4⟩:=qaK ha1
 refine zV 53 Tryz.func213 rfl fun h=>zSR (qv h rfl rfl fun w1 bb1 h=>X1 6 0 h rfl (zcI h hF (qco ⟨_,_,rfl,(h.oldS s1)⟩) rfl fun r1 w2 h hF=>X0 5 rfl (zcB h hF qav rfl fun r2 w3 h hF=>zp1 rfl (qi (t:=11) hF rfl ?_ ?_))))<;>intro hF
 ·refine X1 5 0 h rfl (zcI h hF (qco ⟨_,_,rfl,(h.oldS s2)⟩) rfl fun r3 w4 h hF=>X0 6 rfl (qi (t:=18) hF rfl ?_ ?_))<;>intro hF
  ·refine X1 5 0 h rfl (zcI h hF (qco ⟨_,_,rfl,(h.oldS s3)⟩) rfl fun r4 w5 h hF=>X0 6 rfl (qi (t:=25) hF rfl ?_ ?_))<;>intro hF
   ·refine X1 3 0 h rfl (zcB h hF (qnv (h.old ha1)) rfl fun r5 w6 h hF=>zp2 rfl (qi (t:=29) hF rfl ?_ ?_))<;>intro hF
    ·refine X1 5 0 h rfl (zcB h hF (qb4 ⟨_,_,rfl,(h.oldS s2)⟩) rfl fun r6 w7 h hF=>zp2 rfl (qi (t:=34) hF rfl ?_ ?_))<;>intro hF
     ·refine X1 5 0 h rfl (zcB h hF (qb4 ⟨_,_,rfl,(h.oldS s3)⟩) rfl fun r7 w8 h hF=>zp2 rfl (qi (t:=39) hF rfl ?_ ?_))<;>intro hF
      ·refine X1 5 0 h rfl (zcI h hF (qco ⟨_,_,rfl,(h.oldS s4)⟩) rfl fun r8 w9 h hF=>X0 6 rfl (qi (t:=46) hF rfl ?_ ?_))<;>intro hF
       ·exact X1 9 0 h rfl (zcB h hF (qb4 ⟨_,_,rfl,(h.oldS s4)⟩) rfl fun r9 w10 h hF=>X0 3 rfl (rb h hF rfl))
       exact X0 8 rfl (rb h hF rfl)
      exact X0 15 rfl (rb h hF rfl)
     exact X0 20 rfl (rb h hF rfl)
    exact X0 25 rfl (rb h hF rfl)
   exact X0 29 rfl (rb h hF rfl)
  exact X0 36 rfl (rb h hF rfl)
 exact X0 43 rfl (rb h hF rfl)
def qeB (b:qf) (x2:(List Int)):Nat→Int→Option (Flow Bool Int)
 | 0,_=>none
 | n+1,i2 =>
  bif decide (i2<(b.Ac.length:Int)) then
   (idx b.Ac i2).bind fun y4 =>
   (idx x2 i2).bind fun y5 =>
   (qk4 n y4 y5).bind fun r2 =>
   bif (!r2) then some (.ret false) else
   qeB b x2 n (W64 (i2+1))
  else
   some (.nxt i2)
def qcM (r1:(List Tplace)):Nat→(List Int)→Int→Option ((List Int) × Int)
 | 0,_,_=>none
 | n+1,x2,i1 =>
  bif decide (i1<(r1.length:Int)) then
   (idx r1 i1).bind fun y1 =>
   bif (!y1.drives) then
    (idx x2 y1.net).bind fun y2 =>
    (idx x2 y1.net).bind fun _ =>
    qcM r1 n (setS x2 y1.net (W64 (y2+1))) (W64 (i1+1))
   else
    qcM r1 n x2 (W64 (i1+1))
  else
   some (x2,i1)
def qis (n:Nat) (b:qf):Option Bool :=
 (
  (qiU n (⟨b.Ay.Aq⟩:qq) (⟨b.Ab.Aa,b.Ab.Am,b.Ab.Aj⟩:qe)).bind fun r3 =>
  bif (!r3) then some true else
  some ((b.Ac.length:Int) != (b.Ab.Am.length:Int))).bind fun b1 =>
 bif b1 then some false else
 (mkS (b.Ac.length:Int) (0:Int)).bind fun x1 =>
 (qcf n (⟨b.Ab.Aa,b.Ab.Am,b.Ab.Aj⟩:qe)).bind fun r1 =>
 (qcM r1 n x1 0).bind fun o=>match o with
 | (x2,_) =>
  (qeB b x2 n 0).bind fun o=>match o with
  | .ret r=>some r
  | .nxt _ =>
   some true
theorem qpk {b:qf} (ha1:GoT.R w (old w) b cs1) {r:Bool} (hF:qis n b=some r):RetV Tryz.prog 186 [GoT.v qf cs1] w r:=by
 obtain ⟨p1,k1,p2,k2,p3,k3,p4,k4,p5,k5,rfl,s1,s2,s3,s4,s5⟩:=qaa ha1
 refine zV 63 Tryz.func186 rfl fun h=>zSR (qv h rfl rfl fun w1 bb1 h=>X0 4 rfl ?_)
 obtain ⟨KF1,hKF1,o3,hF,hK3⟩:=bindE hF
 refine qbl (fun e w'=>∃ (b1:Bool),KF1 b1=some r∧e=[(1,.pointer (some ⟨bb1,0,none⟩)),(23,.bool b1)]∧SH w w' [Ch.box bb1 (qaP b p1 p2 p3 p4 p5 k1 k2 k3 k4 k5) 51]) ?_ ?_
 ·refine X2 5 0 0 h rfl (zcB h hF (qoF (qdO _ (h.oldS s1)) (qao _ (h.oldS s2) (h.oldS s3) (h.oldS s4))) rfl fun r3 w12 h hF=>zp2 rfl (qi (t:=14) hF rfl ?_ ?_))<;>intro hF
  ·refine X0 10 rfl ?_
   obtain rfl:=qb hF
   exact rG ⟨_,hK3,rfl,h⟩ rfl
  refine X2 18 0 0 h rfl ?_
  obtain rfl:=qb hF
  exact rG ⟨_,hK3,rfl,h⟩ rfl
 rintro e3 w13 ⟨b1,hF,rfl,h⟩
 subst hKF1
 refine qh rfl hF ?_ ?_<;>intro hF
 ·exact X0 4 rfl (rb h hF rfl)
 refine X1 6 0 h rfl ?_
 obtain ⟨x1,hx1,hF⟩:=qc hF
 obtain ⟨g1,g2,hx1⟩:=qO hx1
 refine qai qa Int h rfl rfl rfl rfl rfl rfl rfl rfl rfl g1 g2 hx1 rfl fun w2 S1 p6 h=>X1 7 1 h rfl (zcL h hF (qen (qao _ (h.oldS s2) (h.oldS s3) (h.oldS s4))) rfl fun r1 w3 S2 p7 k6 h hF=>X0 3 rfl ?_)
 obtain ⟨o1,hF,hK1⟩:=qc hF
 refine qm (rL (fun m e w'=>∃ (x2:(List Int)) (i1:Int),qcM r1 m x2 i1=some o1∧e=[(1,.pointer (some ⟨bb1,0,none⟩)),(3,.slice p6 x1.length x1.length),(30,.slice p7 r1.length k6),(31,.int .i64 (r1.length:Int)),(32,.int .i64 i1)]∧SH w w' [Ch.own S2 (r1:List Tplace) [.slice p7 r1.length k6],Ch.own S1 (x2:List Int) [.slice p6 x1.length x1.length],Ch.box bb1 (qaP b p1 p2 p3 p4 p5 k1 k2 k3 k4 k5) 51]) n ⟨_,_,hF,rfl,h⟩ rfl ?_)
 rintro m1 e1 w4 ⟨x2,i1,hF,rfl,h⟩
 rcases m1 with _|m1
 ·cases hF
 refine X0 5 rfl (qh rfl hF ?_ ?_)<;>intro hF
 ·refine zKSBSR ?_
  obtain ⟨y1,hy1,hF,he1,b2,_,q1,cs2,hp1,hq1,hr2,hc3⟩:=(h.sl 0 rfl).1.ix hF
  obtain rfl:=qgx hr2
  refine zx hp1 hq1 ⟨he1.1,qV he1.2.1 (h.sl 0 rfl).2⟩ rfl (zc 0 hc3 rfl (qj qa h rfl rfl rfl fun w5 bb2 h=>zs 0 h rfl fun w6 h=>X1 7 0 h rfl (qh rfl hF ?_ ?_)))<;>intro hF
  ·refine X1 4 0 h rfl ?_
   obtain ⟨y2,hy2,hF,he2,b3,_,q2,cs3,hp2,hq2,rfl,hc5⟩:=(h.sl 2 rfl).1.ix hF
   refine zx hp2 hq2 ⟨he2.1,qV he2.2.1 (h.sl 2 rfl).2⟩ rfl (zc 0 hc5 rfl (zp1 rfl ?_))
   obtain ⟨y3,hy3,hF,he3,b4,_,q3,cs4,hp3,hq3,rfl,hc6⟩:=(h.sl 2 rfl).1.ix hF
   refine zx hp3 hq3 ⟨he3.1,qV he3.2.1 (h.sl 2 rfl).2⟩ rfl (qbw qa 2 0 (W64 (y2+1)) h rfl hy3 hp3 hq3 rfl hc6 rfl rfl rfl rfl rfl rfl rfl fun w7 h=>X0 6 rfl ?_)
   replace h:=h.pick [1,2,3] rfl
   exact rK ⟨_,_,hF,rfl,h⟩ rfl
  refine X0 6 rfl ?_
  replace h:=h.pick [1,2,3] rfl
  exact rK ⟨_,_,hF,rfl,h⟩ rfl
 refine qu rfl ?_
 obtain rfl:=qb hF;replace hF:=hK1
 refine X1 8 2 h rfl ?_
 obtain ⟨o2,hF,hK2⟩:=qc hF
 refine qm ?_
 replace h:=h.pick [1] rfl
 refine rL (fun m e w'=>∃ (i2:Int),qeB b x2 m i2=some o2∧e=[(3,.slice p6 x1.length x1.length),(48,.slice p5 b.Ac.length k5),(49,.int .i64 (b.Ac.length:Int)),(50,.int .i64 i2)]∧SH w w' [Ch.own S1 (x2:List Int) [.slice p6 x1.length x1.length]]) n ⟨_,hF,rfl,h⟩ rfl ?_
 rintro m2 e2 w8 ⟨i2,hF,rfl,h⟩
 rcases m2 with _|m2
 ·cases hF
 refine X0 5 rfl (qh rfl hF ?_ ?_)<;>intro hF
 ·refine X0 6 rfl ?_
  obtain ⟨y4,hy4,hF,he4,b5,_,q4,cs5,hp4,hq4,hr5,hc8⟩:=s5.ix hF
  obtain ⟨p8,k7,p9,k8,p10,k9,p11,k10,rfl,s6,s7,s8,s9⟩:=qaK hr5
  refine zxe hp4 hq4 he4 rfl (zc 0 (hc8.below h.below) rfl (qj qa h rfl rfl rfl fun w9 bb3 h=>zp1 rfl (zs 0 h rfl fun w10 h=>zNS (rD (Y1 1 0 h rfl ?_)))))
  refine zd2 rfl ?_
  obtain ⟨y5,hy5,hF,he5,b6,_,q5,cs6,hp5,hq5,rfl,hc9⟩:=(h.sl 1 rfl).1.ix hF
  refine zdx hp5 hq5 ⟨he5.1,qV he5.2.1 (h.sl 1 rfl).2⟩ rfl (zdc 0 hc9 rfl ?_)
  obtain ⟨r2,hr7,hF⟩:=qc hF
  refine qbj r2 (vsB _) (cB 213 rfl) (fun _ hb=>qqI (qjT y4 ((h.ext hb).oldS s6) ((h.ext hb).oldS s7) ((h.ext hb).oldS s8) ((h.ext hb).oldS s9)) hr7) rfl rfl rfl rfl (zd1 rfl (dN h fun w11 h=>qh rfl hF ?_ ?_))<;>intro hF
  ·refine X0 4 rfl ?_
   obtain rfl:=qb hF;replace hF:=hK2
   exact rb h hF rfl
  refine X0 6 rfl ?_
  replace h:=h.pick [1] rfl
  exact rK ⟨_,hF,rfl,h⟩ rfl
 refine qu rfl ?_
 obtain rfl:=qb hF;replace hF:=hK2
 exact X0 4 rfl (rb h hF rfl)
end Go.Fw


namespace Go.Fw
open Go
def qcz (a:(List Int)):Nat:=a.length
theorem qdi {a:(List Int)} (h:(rngL rngI) a) (w:qcz a≤1048576):(okL okI) a :=
 ⟨by simp only [qcz] at w;omega,fun x hx=>h.2 x hx⟩
def qhG (x:qx):Prop:=(rngL rngI) x.Bm∧(rngL rngI) x.Bj∧(rngL rngI) x.Bh
def qfE (x:qx):Nat:=qcz x.Bm+qcz x.Bj+qcz x.Bh
structure qik (x:qx):Prop where
 Bm:(okL okI) x.Bm
 Bj:(okL okI) x.Bj
 Bh:(okL okI) x.Bh
theorem que {x:qx} (h:qhG x) (w:qfE x≤1048576):qik x:=⟨qdi (h.1) (by simp only [qfE] at w;omega),qdi (h.2.1) (by simp only [qfE] at w;omega),qdi (h.2.2) (by simp only [qfE] at w;omega)⟩
def qfK (a:(List qx)):Nat:=a.length+(a.map fun x=>qfE x).sum
theorem qpa {a:(List qx)} (h:(rngL qhG) a) (w:qfK a≤1048576):(okL qik) a :=
 ⟨by simp only [qfK] at w;omega,fun x hx=>que (h.2 x hx) (by have:=qes (wt:=fun x:qx=>qfE x) hx;simp only [qfK] at w;omega)⟩
def qlF (x:qP):Prop:=rngI x.Bf∧rngI x.Bk∧rngI x.To∧rngI x.Bn∧(rngL qhG) x.Bp∧(rngL qhG) x.Bc
def qkY (x:qP):Nat:=qfK x.Bp+qfK x.Bc
structure qnB (x:qP):Prop where
 Bf:okI x.Bf
 Bk:okI x.Bk
 To:okI x.To
 Bn:okI x.Bn
 Bp:(okL qik) x.Bp
 Bc:(okL qik) x.Bc
theorem qwy {x:qP} (h:qlF x) (w:qkY x≤1048576):qnB x:=⟨h.1,h.2.1,h.2.2.1,h.2.2.2.1,qpa (h.2.2.2.2.1) (by simp only [qkY] at w;omega),qpa (h.2.2.2.2.2) (by simp only [qkY] at w;omega)⟩
theorem qfh {a:(List Int)} (h:qcz a≤1048576):Ev (fun n=>qbn n a a) true:=by
 have hl:a.length≤1048576:=by simp only [qcz] at h;omega
 unfold qbn
 exact Ev.ff (by simp) (Ev.bind (b:=.nxt (a.length:Int)) (qiP (eqf:=fun _ x y=>some (!(x != y))) (fun x _=>Ev.now (by simp))
  (fun n=>by simp only [qfj,ql (jb _),cond_false])
  (fun n j x hx=>by
   have hj:=(List.getElem?_eq_some_iff.1 hx).1
   simp only [qfj,qk hj,cond_true,qax hx,ja,Bool.not_not,wS j])) .done)
theorem qwQ {a:qx} (h:qfE a≤1048576):Ev (fun n=>qh9 n a a) true:=by
 unfold qh9
 simp only [qfE] at h
 exact Ev.bind (qfh (a:=a.Bm) (by omega)) (Ev.ff rfl (Ev.bind (qfh (a:=a.Bj) (by omega)) (Ev.ff rfl (Ev.bind (qfh (a:=a.Bh) (by omega)) (Ev.ff rfl (.done))))))
theorem qrG {a:(List qx)} (h:qfK a≤1048576):Ev (fun n=>qhj n a a) true:=by
 have hl:a.length≤1048576:=by simp only [qfK] at h;omega
 unfold qhj
 exact Ev.ff (by simp) (Ev.bind (b:=.nxt (a.length:Int)) (qiP (eqf:=qh9) (fun x hx=>qwQ (by have:=qes (wt:=fun x:qx=>qfE x) hx;simp only [qfK] at h;omega))
  (fun n=>by simp only [qfg,ql (jb _),cond_false])
  (fun n j x hx=>by
   have hj:=(List.getElem?_eq_some_iff.1 hx).1
   simp only [qfg,qk hj,cond_true,qax hx,ja,wS j])) .done)
theorem qyo {a:qP} (h:qkY a≤1048576):Ev (fun n=>qkc n a a) true:=by
 unfold qkc
 simp only [qkY] at h
 exact Ev.ff qaS (Ev.ff qaS (Ev.ff qaS (Ev.ff qaS (Ev.bind (qrG (a:=a.Bp) (by omega)) (Ev.ff rfl (Ev.bind (qrG (a:=a.Bc) (by omega)) (Ev.ff rfl (.done))))))))
def qj7 (a:(List qP)):Nat:=a.length+(a.map fun x=>qkY x).sum
theorem qva {a:(List qP)} (h:(rngL qlF) a) (w:qj7 a≤1048576):(okL qnB) a :=
 ⟨by simp only [qj7] at w;omega,fun x hx=>qwy (h.2 x hx) (by have:=qes (wt:=fun x:qP=>qkY x) hx;simp only [qj7] at w;omega)⟩
theorem qxr {a:(List qP)} (h:qj7 a≤1048576):Ev (fun n=>qkH n a a) true:=by
 have hl:a.length≤1048576:=by simp only [qj7] at h;omega
 unfold qkH
 exact Ev.ff (by simp) (Ev.bind (b:=.nxt (a.length:Int)) (qiP (eqf:=qkc) (fun x hx=>qyo (by have:=qes (wt:=fun x:qP=>qkY x) hx;simp only [qj7] at h;omega))
  (fun n=>by simp only [qgk,ql (jb _),cond_false])
  (fun n j x hx=>by
   have hj:=(List.getElem?_eq_some_iff.1 hx).1
   simp only [qgk,qk hj,cond_true,qax hx,ja,wS j])) .done)
def qlU (x:qar):Prop:=rngS x.Bb∧rngI x.Bv∧rngI x.Bt∧rngB x.Bq
def qmJ (x:qar):Nat:=x.Bb.size
structure qmN (x:qar):Prop where
 Bb:okS x.Bb
 Bv:okI x.Bv
 Bt:okI x.Bt
 Bq:okT x.Bq
theorem qv0 {x:qar} (h:qlU x) (w:qmJ x≤1048576):qmN x:=⟨(by unfold okS;simp only [qmJ] at w;omega),h.2.1,h.2.2.1,trivial⟩
def qkh (a:(List qar)):Nat:=a.length+(a.map fun x=>qmJ x).sum
theorem quF {a:(List qar)} (h:(rngL qlU) a) (w:qkh a≤1048576):(okL qmN) a :=
 ⟨by simp only [qkh] at w;omega,fun x hx=>qv0 (h.2 x hx) (by have:=qes (wt:=fun x:qar=>qmJ x) hx;simp only [qkh] at w;omega)⟩
def qkb (x:qB):Prop:=rngS x.Bb∧rngI x.Bf∧(rngL qlU) x.Be∧(rngL qlF) x.Au∧(rngL rngI) x.Br∧rngI x.Ca∧rngI x.Bu
def qg3 (x:qB):Nat:=x.Bb.size+qkh x.Be+qj7 x.Au+qcz x.Br
structure qm5 (x:qB):Prop where
 Bb:okS x.Bb
 Bf:okI x.Bf
 Be:(okL qmN) x.Be
 Au:(okL qnB) x.Au
 Br:(okL okI) x.Br
 Ca:okI x.Ca
 Bu:okI x.Bu
theorem qvf {x:qB} (h:qkb x) (w:qg3 x≤1048576):qm5 x:=⟨(by unfold okS;simp only [qg3] at w;omega),h.2.1,quF (h.2.2.1) (by simp only [qg3] at w;omega),qva (h.2.2.2.1) (by simp only [qg3] at w;omega),qdi (h.2.2.2.2.1) (by simp only [qg3] at w;omega),h.2.2.2.2.2.1,h.2.2.2.2.2.2⟩
def qiq (a:(List qB)):Nat:=a.length+(a.map fun x=>qg3 x).sum
theorem qt7 {a:(List qB)} (h:(rngL qkb) a) (w:qiq a≤1048576):(okL qm5) a :=
 ⟨by simp only [qiq] at w;omega,fun x hx=>qvf (h.2 x hx) (by have:=qes (wt:=fun x:qB=>qg3 x) hx;simp only [qiq] at w;omega)⟩
def qkN (x:qq):Prop:=(rngL qkb) x.Aq
def qgK (x:qq):Nat:=qiq x.Aq
structure qhz (x:qq):Prop where
 Aq:(okL qm5) x.Aq
theorem qsg {x:qq} (h:qkN x) (w:qgK x≤1048576):qhz x:=⟨qt7 (h) (by simp only [qgK] at w;omega)⟩
def qfG (x:qp):Prop:=rngS x.Bb∧rngI x.Bs∧(rngL rngI) x.Am
def qcB (x:qp):Nat:=x.Bb.size+qcz x.Am
structure qmw (x:qp):Prop where
 Bb:okS x.Bb
 Bs:okI x.Bs
 Am:(okL okI) x.Am
theorem qq0 {x:qp} (h:qfG x) (w:qcB x≤1048576):qmw x:=⟨(by unfold okS;simp only [qcB] at w;omega),h.2.1,qdi (h.2.2) (by simp only [qcB] at w;omega)⟩
def qdl (a:(List qp)):Nat:=a.length+(a.map fun x=>qcB x).sum
theorem qqw {a:(List qp)} (h:(rngL qfG) a) (w:qdl a≤1048576):(okL qmw) a :=
 ⟨by simp only [qdl] at w;omega,fun x hx=>qq0 (h.2 x hx) (by have:=qes (wt:=fun x:qp=>qcB x) hx;simp only [qdl] at w;omega)⟩
def qgF (a:(List ByteArray)):Nat:=a.length+(a.map fun x=>x.size).sum
theorem qr0 {a:(List ByteArray)} (_:(rngL rngS) a) (w:qgF a≤1048576):(okL okS) a :=
 ⟨by simp only [qgF] at w;omega,fun x hx=>(by unfold okS;have:=qes (wt:=fun x:ByteArray=>x.size) hx;simp only [qgF] at w;omega)⟩
def qkt (x:qal):Prop:=rngS x.Bb∧rngI x.Bv∧rngI x.Bx
def qkn (x:qal):Nat:=x.Bb.size
structure qr1 (x:qal):Prop where
 Bb:okS x.Bb
 Bv:okI x.Bv
 Bx:okI x.Bx
theorem qu4 {x:qal} (h:qkt x) (w:qkn x≤1048576):qr1 x:=⟨(by unfold okS;simp only [qkn] at w;omega),h.2.1,h.2.2⟩
def qhS (a:(List qal)):Nat:=a.length+(a.map fun x=>qkn x).sum
theorem qt0 {a:(List qal)} (h:(rngL qkt) a) (w:qhS a≤1048576):(okL qr1) a :=
 ⟨by simp only [qhS] at w;omega,fun x hx=>qu4 (h.2 x hx) (by have:=qes (wt:=fun x:qal=>qkn x) hx;simp only [qhS] at w;omega)⟩
def ql8 (x:qe):Prop:=(rngL qfG) x.Aa∧(rngL rngS) x.Am∧(rngL qkt) x.Aj
def qgB (x:qe):Nat:=qdl x.Aa+qgF x.Am+qhS x.Aj
structure qjV (x:qe):Prop where
 Aa:(okL qmw) x.Aa
 Am:(okL okS) x.Am
 Aj:(okL qr1) x.Aj
theorem qs3 {x:qe} (h:ql8 x) (w:qgB x≤1048576):qjV x:=⟨qqw (h.1) (by simp only [qgB] at w;omega),qr0 (h.2.1) (by simp only [qgB] at w;omega),qt0 (h.2.2) (by simp only [qgB] at w;omega)⟩
def qj0 (x:qQ):Prop:=(rngL rngI) x.Ak∧(rngL rngI) x.Bw∧(rngL rngI) x.Bt∧(rngL rngI) x.Bl
def qg7 (x:qQ):Nat:=qcz x.Ak+qcz x.Bw+qcz x.Bt+qcz x.Bl
structure qnU (x:qQ):Prop where
 Ak:(okL okI) x.Ak
 Bw:(okL okI) x.Bw
 Bt:(okL okI) x.Bt
 Bl:(okL okI) x.Bl
theorem qvl {x:qQ} (h:qj0 x) (w:qg7 x≤1048576):qnU x:=⟨qdi (h.1) (by simp only [qg7] at w;omega),qdi (h.2.1) (by simp only [qg7] at w;omega),qdi (h.2.2.1) (by simp only [qg7] at w;omega),qdi (h.2.2.2) (by simp only [qg7] at w;omega)⟩
def qhW (a:(List qQ)):Nat:=a.length+(a.map fun x=>qg7 x).sum
theorem qt4 {a:(List qQ)} (h:(rngL qj0) a) (w:qhW a≤1048576):(okL qnU) a :=
 ⟨by simp only [qhW] at w;omega,fun x hx=>qvl (h.2 x hx) (by have:=qes (wt:=fun x:qQ=>qg7 x) hx;simp only [qhW] at w;omega)⟩
def qm9 (x:qf):Prop:=qkN x.Ay∧ql8 x.Ab∧(rngL qj0) x.Ac
def qhP (x:qf):Nat:=qgK x.Ay+qgB x.Ab+qhW x.Ac
structure qlz (x:qf):Prop where
 Ay:qhz x.Ay
 Ab:qjV x.Ab
 Ac:(okL qnU) x.Ac
theorem qtA {x:qf} (h:qm9 x) (w:qhP x≤1048576):qlz x:=⟨qsg (h.1) (by simp only [qhP] at w;omega),qs3 (h.2.1) (by simp only [qhP] at w;omega),qt4 (h.2.2) (by simp only [qhP] at w;omega)⟩
theorem qyr {a:qar} (_:qmJ a≤1048576):Ev (fun n=>qj3 n a a) true:=by
 unfold qj3
 exact Ev.ff qh6 (Ev.ff qaS (Ev.ff qaS (Ev.ff qsk (.done))))
theorem qxt {a:(List qar)} (h:qkh a≤1048576):Ev (fun n=>qkS n a a) true:=by
 have hl:a.length≤1048576:=by simp only [qkh] at h;omega
 unfold qkS
 exact Ev.ff (by simp) (Ev.bind (b:=.nxt (a.length:Int)) (qiP (eqf:=qj3) (fun x hx=>qyr (by have:=qes (wt:=fun x:qar=>qmJ x) hx;simp only [qkh] at h;omega))
  (fun n=>by simp only [qgu,ql (jb _),cond_false])
  (fun n j x hx=>by
   have hj:=(List.getElem?_eq_some_iff.1 hx).1
   simp only [qgu,qk hj,cond_true,qax hx,ja,wS j])) .done)
theorem qxa {a:qB} (h:qg3 a≤1048576):Ev (fun n=>qi6 n a a) true:=by
 unfold qi6
 simp only [qg3] at h
 exact Ev.ff qh6 (Ev.ff qaS (Ev.bind (qxt (a:=a.Be) (by omega)) (Ev.ff rfl (Ev.bind (qxr (a:=a.Au) (by omega)) (Ev.ff rfl (Ev.bind (qfh (a:=a.Br) (by omega)) (Ev.ff rfl (Ev.ff qaS (Ev.ff qaS (.done))))))))))
theorem qwx {a:(List qB)} (h:qiq a≤1048576):Ev (fun n=>qjD n a a) true:=by
 have hl:a.length≤1048576:=by simp only [qiq] at h;omega
 unfold qjD
 exact Ev.ff (by simp) (Ev.bind (b:=.nxt (a.length:Int)) (qiP (eqf:=qi6) (fun x hx=>qxa (by have:=qes (wt:=fun x:qB=>qg3 x) hx;simp only [qiq] at h;omega))
  (fun n=>by simp only [qfO,ql (jb _),cond_false])
  (fun n j x hx=>by
   have hj:=(List.getElem?_eq_some_iff.1 hx).1
   simp only [qfO,qk hj,cond_true,qax hx,ja,wS j])) .done)
theorem qtL {a:qq} (h:qgK a≤1048576):Ev (fun n=>qhQ n a a) true:=by
 unfold qhQ
 simp only [qgK] at h
 exact Ev.bind (qwx (a:=a.Aq) (by omega)) (Ev.ff rfl (.done))
theorem qs4 {a:qp} (h:qcB a≤1048576):Ev (fun n=>qfU n a a) true:=by
 unfold qfU
 simp only [qcB] at h
 exact Ev.ff qh6 (Ev.ff qaS (Ev.bind (qfh (a:=a.Am) (by omega)) (Ev.ff rfl (.done))))
theorem qrS {a:(List qp)} (h:qdl a≤1048576):Ev (fun n=>qgJ n a a) true:=by
 have hl:a.length≤1048576:=by simp only [qdl] at h;omega
 unfold qgJ
 exact Ev.ff (by simp) (Ev.bind (b:=.nxt (a.length:Int)) (qiP (eqf:=qfU) (fun x hx=>qs4 (by have:=qes (wt:=fun x:qp=>qcB x) hx;simp only [qdl] at h;omega))
  (fun n=>by simp only [qdI,ql (jb _),cond_false])
  (fun n j x hx=>by
   have hj:=(List.getElem?_eq_some_iff.1 hx).1
   simp only [qdI,qk hj,cond_true,qax hx,ja,wS j])) .done)
theorem qug {a:(List ByteArray)} (h:qgF a≤1048576):Ev (fun n=>qh3 n a a) true:=by
 have hl:a.length≤1048576:=by simp only [qgF] at h;omega
 unfold qh3
 exact Ev.ff (by simp) (Ev.bind (b:=.nxt (a.length:Int)) (qiP (eqf:=fun _ x y=>some (!(x.toList != y.toList))) (fun x _=>Ev.now (by simp))
  (fun n=>by simp only [qeJ,ql (jb _),cond_false])
  (fun n j x hx=>by
   have hj:=(List.getElem?_eq_some_iff.1 hx).1
   simp only [qeJ,qk hj,cond_true,qax hx,ja,Bool.not_not,wS j])) .done)
theorem qwY {a:qal} (_:qkn a≤1048576):Ev (fun n=>qjh n a a) true:=by
 unfold qjh
 exact Ev.ff qh6 (Ev.ff qaS (Ev.ff qaS (.done)))
theorem qwm {a:(List qal)} (h:qhS a≤1048576):Ev (fun n=>qjM n a a) true:=by
 have hl:a.length≤1048576:=by simp only [qhS] at h;omega
 unfold qjM
 exact Ev.ff (by simp) (Ev.bind (b:=.nxt (a.length:Int)) (qiP (eqf:=qjh) (fun x hx=>qwY (by have:=qes (wt:=fun x:qal=>qkn x) hx;simp only [qhS] at h;omega))
  (fun n=>by simp only [qfS,ql (jb _),cond_false])
  (fun n j x hx=>by
   have hj:=(List.getElem?_eq_some_iff.1 hx).1
   simp only [qfS,qk hj,cond_true,qax hx,ja,wS j])) .done)
theorem quM {a:qe} (h:qgB a≤1048576):Ev (fun n=>qi1 n a a) true:=by
 unfold qi1
 simp only [qgB] at h
 exact Ev.bind (qrS (a:=a.Aa) (by omega)) (Ev.ff rfl (Ev.bind (qug (a:=a.Am) (by omega)) (Ev.ff rfl (Ev.bind (qwm (a:=a.Aj) (by omega)) (Ev.ff rfl (.done))))))
theorem qxj {a:qQ} (h:qg7 a≤1048576):Ev (fun n=>qjg n a a) true:=by
 unfold qjg
 simp only [qg7] at h
 exact Ev.bind (qfh (a:=a.Ak) (by omega)) (Ev.ff rfl (Ev.bind (qfh (a:=a.Bw) (by omega)) (Ev.ff rfl (Ev.bind (qfh (a:=a.Bt) (by omega)) (Ev.ff rfl (Ev.bind (qfh (a:=a.Bl) (by omega)) (Ev.ff rfl (.done))))))))
theorem qvX {a:(List qQ)} (h:qhW a≤1048576):Ev (fun n=>qjS n a a) true:=by
 have hl:a.length≤1048576:=by simp only [qhW] at h;omega
 unfold qjS
 exact Ev.ff (by simp) (Ev.bind (b:=.nxt (a.length:Int)) (qiP (eqf:=qjg) (fun x hx=>qxj (by have:=qes (wt:=fun x:qQ=>qg7 x) hx;simp only [qhW] at h;omega))
  (fun n=>by simp only [qfN,ql (jb _),cond_false])
  (fun n j x hx=>by
   have hj:=(List.getElem?_eq_some_iff.1 hx).1
   simp only [qfN,qk hj,cond_true,qax hx,ja,wS j])) .done)
theorem qwp {a:qf} (h:qhP a≤1048576):Ev (fun n=>qjB n a a) true:=by
 unfold qjB
 simp only [qhP] at h
 exact Ev.bind (qtL (a:=a.Ay) (by omega)) (Ev.ff rfl (Ev.bind (quM (a:=a.Ab) (by omega)) (Ev.ff rfl (Ev.bind (qvX (a:=a.Ac) (by omega)) (Ev.ff rfl (.done))))))
theorem qf0 {a:(List Int)} {left:Int} (h:(rngL rngI) a) (h0:0≤left) (h1:left≤1048576):Sz (fun n=>qbP n a left) (fun r=>r=left-(qcz a:Int)) :=
 Sz.less h0 h1 (by omega) (by have:=h.1;omega) (fun _=>rfl)
theorem qwe {a:qx} {left:Int} (h:qhG a) (h0:0≤left) (h1:left≤1048576):Sz (fun n=>qii n a left) (fun r=>r=left-(qfE a:Int)):=by
 unfold qii
 obtain ⟨h_0,h_1,h_2⟩:=h
 exact Sz.step (qf0 (a:=a.Bm) h_0 (by omega) (by omega)) fun r0 p0 q0=>Sz.step (qf0 (a:=a.Bj) h_1 (by omega) (by omega)) fun r1 p1 q1=>Sz.step (qf0 (a:=a.Bh) h_2 (by omega) (by omega)) fun r2 p2 q2=>Sz.done p2 (by simp only [qfE];omega)
theorem qrO {a:(List qx)} {left:Int} (h:(rngL qhG) a) (h0:0≤left) (h1:left≤1048576):Sz (fun n=>qiO n a left) (fun r=>r=left-(qfK a:Int)) :=
 Sz.list (Lf:=qd6 a) (wt:=fun x:qx=>qfE x) (el:=qii) h0 h1 h.1 (fun x hx left p q=>qwe (h.2 x hx) p q)
  (fun acc n=>by simp only [qd6,ql (jb _),cond_false])
  (fun acc n j x hx=>by
   have hj:=(List.getElem?_eq_some_iff.1 hx).1
   have hl:=h.1
   simp only [qd6,qk hj,cond_true,qax hx,ja,wS j])
  (fun _=>rfl)
theorem qx8 {a:qP} {left:Int} (h:qlF a) (h0:0≤left) (h1:left≤1048576):Sz (fun n=>qj1 n a left) (fun r=>r=left-(qkY a:Int)):=by
 unfold qj1
 obtain ⟨h_0,h_1,h_2,h_3,h_4,h_5⟩:=h
 exact Sz.step (qrO (a:=a.Bp) h_4 (by omega) (by omega)) fun r0 p0 q0=>Sz.step (qrO (a:=a.Bc) h_5 (by omega) (by omega)) fun r1 p1 q1=>Sz.done p1 (by simp only [qkY];omega)
theorem qw5 {a:(List qP)} {left:Int} (h:(rngL qlF) a) (h0:0≤left) (h1:left≤1048576):Sz (fun n=>qmB n a left) (fun r=>r=left-(qj7 a:Int)) :=
 Sz.list (Lf:=qfc a) (wt:=fun x:qP=>qkY x) (el:=qj1) h0 h1 h.1 (fun x hx left p q=>qx8 (h.2 x hx) p q)
  (fun acc n=>by simp only [qfc,ql (jb _),cond_false])
  (fun acc n j x hx=>by
   have hj:=(List.getElem?_eq_some_iff.1 hx).1
   have hl:=h.1
   simp only [qfc,qk hj,cond_true,qax hx,ja,wS j])
  (fun _=>rfl)
theorem qx0 {a:qar} {left:Int} (h:qlU a) (h0:0≤left) (h1:left≤1048576):Sz (fun n=>qj6 n a left) (fun r=>r=left-(qmJ a:Int)):=by
 unfold qj6
 obtain ⟨h_0,h_1,h_2,h_3⟩:=h
 exact Sz.strStep h_0 (by omega) (by omega) fun p0 q0=>Sz.done p0 (by simp only [qmJ];omega)
theorem qw6 {a:(List qar)} {left:Int} (h:(rngL qlU) a) (h0:0≤left) (h1:left≤1048576):Sz (fun n=>qmG n a left) (fun r=>r=left-(qkh a:Int)) :=
 Sz.list (Lf:=qfb a) (wt:=fun x:qar=>qmJ x) (el:=qj6) h0 h1 h.1 (fun x hx left p q=>qx0 (h.2 x hx) p q)
  (fun acc n=>by simp only [qfb,ql (jb _),cond_false])
  (fun acc n j x hx=>by
   have hj:=(List.getElem?_eq_some_iff.1 hx).1
   have hl:=h.1
   simp only [qfb,qk hj,cond_true,qax hx,ja,wS j])
  (fun _=>rfl)
theorem qxO {a:qB} {left:Int} (h:qkb a) (h0:0≤left) (h1:left≤1048576):Sz (fun n=>qjp n a left) (fun r=>r=left-(qg3 a:Int)):=by
 unfold qjp
 obtain ⟨h_0,h_1,h_2,h_3,h_4,h_5,h_6⟩:=h
 exact Sz.strStep h_0 (by omega) (by omega) fun p0 q0=>Sz.step (qw6 (a:=a.Be) h_2 (by omega) (by omega)) fun r1 p1 q1=>Sz.step (qw5 (a:=a.Au) h_3 (by omega) (by omega)) fun r2 p2 q2=>Sz.step (qf0 (a:=a.Br) h_4 (by omega) (by omega)) fun r3 p3 q3=>Sz.done p3 (by simp only [qg3];omega)
theorem qwM {a:(List qB)} {left:Int} (h:(rngL qkb) a) (h0:0≤left) (h1:left≤1048576):Sz (fun n=>ql4 n a left) (fun r=>r=left-(qiq a:Int)) :=
 Sz.list (Lf:=qew a) (wt:=fun x:qB=>qg3 x) (el:=qjp) h0 h1 h.1 (fun x hx left p q=>qxO (h.2 x hx) p q)
  (fun acc n=>by simp only [qew,ql (jb _),cond_false])
  (fun acc n j x hx=>by
   have hj:=(List.getElem?_eq_some_iff.1 hx).1
   have hl:=h.1
   simp only [qew,qk hj,cond_true,qax hx,ja,wS j])
  (fun _=>rfl)
theorem qtR {a:qq} {left:Int} (h:qkN a) (h0:0≤left) (h1:left≤1048576):Sz (fun n=>qif n a left) (fun r=>r=left-(qgK a:Int)):=by
 unfold qif
 have h_0:=h
 exact Sz.step (qwM (a:=a.Aq) h_0 (by omega) (by omega)) fun r0 p0 q0=>Sz.done p0 (by simp only [qgK];omega)
theorem qsC {a:qp} {left:Int} (h:qfG a) (h0:0≤left) (h1:left≤1048576):Sz (fun n=>qfV n a left) (fun r=>r=left-(qcB a:Int)):=by
 unfold qfV
 obtain ⟨h_0,h_1,h_2⟩:=h
 exact Sz.strStep h_0 (by omega) (by omega) fun p0 q0=>Sz.step (qf0 (a:=a.Am) h_2 (by omega) (by omega)) fun r1 p1 q1=>Sz.done p1 (by simp only [qcB];omega)
theorem qrQ {a:(List qp)} {left:Int} (h:(rngL qfG) a) (h0:0≤left) (h1:left≤1048576):Sz (fun n=>qiH n a left) (fun r=>r=left-(qdl a:Int)) :=
 Sz.list (Lf:=qcI a) (wt:=fun x:qp=>qcB x) (el:=qfV) h0 h1 h.1 (fun x hx left p q=>qsC (h.2 x hx) p q)
  (fun acc n=>by simp only [qcI,ql (jb _),cond_false])
  (fun acc n j x hx=>by
   have hj:=(List.getElem?_eq_some_iff.1 hx).1
   have hl:=h.1
   simp only [qcI,qk hj,cond_true,qax hx,ja,wS j])
  (fun _=>rfl)
theorem qtD {a:(List ByteArray)} {left:Int} (h:(rngL rngS) a) (h0:0≤left) (h1:left≤1048576):Sz (fun n=>qks n a left) (fun r=>r=left-(qgF a:Int)) :=
 Sz.list (Lf:=qdu a) (wt:=fun x:ByteArray=>x.size) (el:=fun _ (x:ByteArray) acc=>some (W64 (acc-(x.size:Int)))) h0 h1 h.1 (fun x hx left p q=>Sz.str (h.2 x hx) p q)
  (fun acc n=>by simp only [qdu,ql (jb _),cond_false])
  (fun acc n j x hx=>by
   have hj:=(List.getElem?_eq_some_iff.1 hx).1
   have hl:=h.1
   simp only [qdu,qk hj,cond_true,qax hx,ja,wS j])
  (fun _=>rfl)
theorem qxG {a:qal} {left:Int} (h:qkt a) (h0:0≤left) (h1:left≤1048576):Sz (fun n=>qjm n a left) (fun r=>r=left-(qkn a:Int)):=by
 unfold qjm
 obtain ⟨h_0,h_1,h_2⟩:=h
 exact Sz.strStep h_0 (by omega) (by omega) fun p0 q0=>Sz.done p0 (by simp only [qkn];omega)
theorem qwz {a:(List qal)} {left:Int} (h:(rngL qkt) a) (h0:0≤left) (h1:left≤1048576):Sz (fun n=>qlQ n a left) (fun r=>r=left-(qhS a:Int)) :=
 Sz.list (Lf:=qeA a) (wt:=fun x:qal=>qkn x) (el:=qjm) h0 h1 h.1 (fun x hx left p q=>qxG (h.2 x hx) p q)
  (fun acc n=>by simp only [qeA,ql (jb _),cond_false])
  (fun acc n j x hx=>by
   have hj:=(List.getElem?_eq_some_iff.1 hx).1
   have hl:=h.1
   simp only [qeA,qk hj,cond_true,qax hx,ja,wS j])
  (fun _=>rfl)
theorem quW {a:qe} {left:Int} (h:ql8 a) (h0:0≤left) (h1:left≤1048576):Sz (fun n=>qiX n a left) (fun r=>r=left-(qgB a:Int)):=by
 unfold qiX
 obtain ⟨h_0,h_1,h_2⟩:=h
 exact Sz.step (qrQ (a:=a.Aa) h_0 (by omega) (by omega)) fun r0 p0 q0=>Sz.step (qtD (a:=a.Am) h_1 (by omega) (by omega)) fun r1 p1 q1=>Sz.step (qwz (a:=a.Aj) h_2 (by omega) (by omega)) fun r2 p2 q2=>Sz.done p2 (by simp only [qgB];omega)
theorem qxk {a:qQ} {left:Int} (h:qj0 a) (h0:0≤left) (h1:left≤1048576):Sz (fun n=>qjl n a left) (fun r=>r=left-(qg7 a:Int)):=by
 unfold qjl
 obtain ⟨h_0,h_1,h_2,h_3⟩:=h
 exact Sz.step (qf0 (a:=a.Ak) h_0 (by omega) (by omega)) fun r0 p0 q0=>Sz.step (qf0 (a:=a.Bw) h_1 (by omega) (by omega)) fun r1 p1 q1=>Sz.step (qf0 (a:=a.Bt) h_2 (by omega) (by omega)) fun r2 p2 q2=>Sz.step (qf0 (a:=a.Bl) h_3 (by omega) (by omega)) fun r3 p3 q3=>Sz.done p3 (by simp only [qg7];omega)
theorem qvM {a:(List qQ)} {left:Int} (h:(rngL qj0) a) (h0:0≤left) (h1:left≤1048576):Sz (fun n=>qlZ n a left) (fun r=>r=left-(qhW a:Int)) :=
 Sz.list (Lf:=qeC a) (wt:=fun x:qQ=>qg7 x) (el:=qjl) h0 h1 h.1 (fun x hx left p q=>qxk (h.2 x hx) p q)
  (fun acc n=>by simp only [qeC,ql (jb _),cond_false])
  (fun acc n j x hx=>by
   have hj:=(List.getElem?_eq_some_iff.1 hx).1
   have hl:=h.1
   simp only [qeC,qk hj,cond_true,qax hx,ja,wS j])
  (fun _=>rfl)
theorem qvN {a:qf} {left:Int} (h:qm9 a) (h0:0≤left) (h1:left≤1048576):Sz (fun n=>qjF n a left) (fun r=>r=left-(qhP a:Int)):=by
 unfold qjF
 obtain ⟨h_0,h_1,h_2⟩:=h
 exact Sz.step (qtR (a:=a.Ay) h_0 (by omega) (by omega)) fun r0 p0 q0=>Sz.step (quW (a:=a.Ab) h_1 (by omega) (by omega)) fun r1 p1 q1=>Sz.step (qvM (a:=a.Ac) h_2 (by omega) (by omega)) fun r2 p2 q2=>Sz.done p2 (by simp only [qhP];omega)
theorem qd5 {a:(List Int)} (h:qcz a≤1048576):Ev (fun n=>qaO n a) a:=by
 have hl:a.length≤1048576:=by simp only [qcz] at h;omega
 unfold qaO
 exact Ev.bindN (qim (by omega)) (Ev.bind (b:=(a,(a.length:Int))) (qi2 (cp:=fun _ x=>some x) (fun _ _=>.done)
  (fun acc n=>by simp only [qfl,ql (jb _),cond_false])
  (fun acc n j x y hx hy=>by
   have hj:=(List.getElem?_eq_some_iff.1 hx).1
   simp only [qfl,qk hj,cond_true,qax hx,qax hy,ja,wS j])) .done)
theorem qvQ {a:qx} (h:qfE a≤1048576):Ev (fun n=>qhX n a) a:=by
 unfold qhX
 simp only [qfE] at h
 exact Ev.bind (qd5 (a:=a.Bm) (by omega)) (Ev.bind (qd5 (a:=a.Bj) (by omega)) (Ev.bind (qd5 (a:=a.Bh) (by omega)) (.done)))
theorem qrz {a:(List qx)} (h:qfK a≤1048576):Ev (fun n=>qhd n a) a:=by
 have hl:a.length≤1048576:=by simp only [qfK] at h;omega
 unfold qhd
 exact Ev.bindN (qim (by omega)) (Ev.bind (b:=(a,(a.length:Int))) (qi2 (cp:=qhX) (fun x hx=>qvQ (by have:=qes (wt:=fun x:qx=>qfE x) hx;simp only [qfK] at h;omega))
  (fun acc n=>by simp only [qfo,ql (jb _),cond_false])
  (fun acc n j x y hx hy=>by
   have hj:=(List.getElem?_eq_some_iff.1 hx).1
   simp only [qfo,qk hj,cond_true,qax hx,qax hy,ja,wS j])) .done)
theorem qyy {a:qP} (h:qkY a≤1048576):Ev (fun n=>qkf n a) a:=by
 unfold qkf
 simp only [qkY] at h
 exact Ev.bind (qrz (a:=a.Bp) (by omega)) (Ev.bind (qrz (a:=a.Bc) (by omega)) (.done))
theorem qwS {a:(List qP)} (h:qj7 a≤1048576):Ev (fun n=>qkV n a) a:=by
 have hl:a.length≤1048576:=by simp only [qj7] at h;omega
 unfold qkV
 exact Ev.bindN (qim (by omega)) (Ev.bind (b:=(a,(a.length:Int))) (qi2 (cp:=qkf) (fun x hx=>qyy (by have:=qes (wt:=fun x:qP=>qkY x) hx;simp only [qj7] at h;omega))
  (fun acc n=>by simp only [qgC,ql (jb _),cond_false])
  (fun acc n j x y hx hy=>by
   have hj:=(List.getElem?_eq_some_iff.1 hx).1
   simp only [qgC,qk hj,cond_true,qax hx,qax hy,ja,wS j])) .done)
theorem qx9 {a:qar} (_:qmJ a≤1048576):Ev (fun n=>qkp n a) a:=by
 unfold qkp
 exact .done
theorem qxu {a:(List qar)} (h:qkh a≤1048576):Ev (fun n=>qk3 n a) a:=by
 have hl:a.length≤1048576:=by simp only [qkh] at h;omega
 unfold qk3
 exact Ev.bindN (qim (by omega)) (Ev.bind (b:=(a,(a.length:Int))) (qi2 (cp:=qkp) (fun x hx=>qx9 (by have:=qes (wt:=fun x:qar=>qmJ x) hx;simp only [qkh] at h;omega))
  (fun acc n=>by simp only [qgj,ql (jb _),cond_false])
  (fun acc n j x y hx hy=>by
   have hj:=(List.getElem?_eq_some_iff.1 hx).1
   simp only [qgj,qk hj,cond_true,qax hx,qax hy,ja,wS j])) .done)
theorem qwX {a:qB} (h:qg3 a≤1048576):Ev (fun n=>qjq n a) a:=by
 unfold qjq
 simp only [qg3] at h
 exact Ev.bind (qxu (a:=a.Be) (by omega)) (Ev.bind (qwS (a:=a.Au) (by omega)) (Ev.bind (qd5 (a:=a.Br) (by omega)) (.done)))
theorem qwh {a:(List qB)} (h:qiq a≤1048576):Ev (fun n=>qjN n a) a:=by
 have hl:a.length≤1048576:=by simp only [qiq] at h;omega
 unfold qjN
 exact Ev.bindN (qim (by omega)) (Ev.bind (b:=(a,(a.length:Int))) (qi2 (cp:=qjq) (fun x hx=>qwX (by have:=qes (wt:=fun x:qB=>qg3 x) hx;simp only [qiq] at h;omega))
  (fun acc n=>by simp only [qfR,ql (jb _),cond_false])
  (fun acc n j x y hx hy=>by
   have hj:=(List.getElem?_eq_some_iff.1 hx).1
   simp only [qfR,qk hj,cond_true,qax hx,qax hy,ja,wS j])) .done)
theorem qtJ {a:qq} (h:qgK a≤1048576):Ev (fun n=>qh7 n a) a:=by
 unfold qh7
 simp only [qgK] at h
 exact Ev.bind (qwh (a:=a.Aq) (by omega)) (.done)
theorem qta {a:qp} (h:qcB a≤1048576):Ev (fun n=>qfQ n a) a:=by
 unfold qfQ
 simp only [qcB] at h
 exact Ev.bind (qd5 (a:=a.Am) (by omega)) (.done)
theorem qrW {a:(List qp)} (h:qdl a≤1048576):Ev (fun n=>qgI n a) a:=by
 have hl:a.length≤1048576:=by simp only [qdl] at h;omega
 unfold qgI
 exact Ev.bindN (qim (by omega)) (Ev.bind (b:=(a,(a.length:Int))) (qi2 (cp:=qfQ) (fun x hx=>qta (by have:=qes (wt:=fun x:qp=>qcB x) hx;simp only [qdl] at h;omega))
  (fun acc n=>by simp only [qdK,ql (jb _),cond_false])
  (fun acc n j x y hx hy=>by
   have hj:=(List.getElem?_eq_some_iff.1 hx).1
   simp only [qdK,qk hj,cond_true,qax hx,qax hy,ja,wS j])) .done)
theorem qtI {a:(List ByteArray)} (h:qgF a≤1048576):Ev (fun n=>qia n a) a:=by
 have hl:a.length≤1048576:=by simp only [qgF] at h;omega
 unfold qia
 exact Ev.bindN (qim (by omega)) (Ev.bind (b:=(a,(a.length:Int))) (qi2 (cp:=fun _ x=>some x) (fun _ _=>.done)
  (fun acc n=>by simp only [qeF,ql (jb _),cond_false])
  (fun acc n j x y hx hy=>by
   have hj:=(List.getElem?_eq_some_iff.1 hx).1
   simp only [qeF,qk hj,cond_true,qax hx,qax hy,ja,wS j])) .done)
theorem qxx {a:qal} (_:qkn a≤1048576):Ev (fun n=>qja n a) a:=by
 unfold qja
 exact .done
theorem qvU {a:(List qal)} (h:qhS a≤1048576):Ev (fun n=>qjE n a) a:=by
 have hl:a.length≤1048576:=by simp only [qhS] at h;omega
 unfold qjE
 exact Ev.bindN (qim (by omega)) (Ev.bind (b:=(a,(a.length:Int))) (qi2 (cp:=qja) (fun x hx=>qxx (by have:=qes (wt:=fun x:qal=>qkn x) hx;simp only [qhS] at h;omega))
  (fun acc n=>by simp only [qfJ,ql (jb _),cond_false])
  (fun acc n j x y hx hy=>by
   have hj:=(List.getElem?_eq_some_iff.1 hx).1
   simp only [qfJ,qk hj,cond_true,qax hx,qax hy,ja,wS j])) .done)
theorem quR {a:qe} (h:qgB a≤1048576):Ev (fun n=>qiY n a) a:=by
 unfold qiY
 simp only [qgB] at h
 exact Ev.bind (qrW (a:=a.Aa) (by omega)) (Ev.bind (qtI (a:=a.Am) (by omega)) (Ev.bind (qvU (a:=a.Aj) (by omega)) (.done)))
theorem qxi {a:qQ} (h:qg7 a≤1048576):Ev (fun n=>qjn n a) a:=by
 unfold qjn
 simp only [qg7] at h
 exact Ev.bind (qd5 (a:=a.Ak) (by omega)) (Ev.bind (qd5 (a:=a.Bw) (by omega)) (Ev.bind (qd5 (a:=a.Bt) (by omega)) (Ev.bind (qd5 (a:=a.Bl) (by omega)) (.done))))
theorem qwD {a:(List qQ)} (h:qhW a≤1048576):Ev (fun n=>qjO n a) a:=by
 have hl:a.length≤1048576:=by simp only [qhW] at h;omega
 unfold qjO
 exact Ev.bindN (qim (by omega)) (Ev.bind (b:=(a,(a.length:Int))) (qi2 (cp:=qjn) (fun x hx=>qxi (by have:=qes (wt:=fun x:qQ=>qg7 x) hx;simp only [qhW] at h;omega))
  (fun acc n=>by simp only [qfL,ql (jb _),cond_false])
  (fun acc n j x y hx hy=>by
   have hj:=(List.getElem?_eq_some_iff.1 hx).1
   simp only [qfL,qk hj,cond_true,qax hx,qax hy,ja,wS j])) .done)
theorem qvT {a:qf} (h:qhP a≤1048576):Ev (fun n=>qjQ n a) a:=by
 unfold qjQ
 simp only [qhP] at h
 exact Ev.bind (qtJ (a:=a.Ay) (by omega)) (Ev.bind (quR (a:=a.Ab) (by omega)) (Ev.bind (qwD (a:=a.Ac) (by omega)) (.done)))
end Go.Fw


namespace Go.Fw
open Go
set_option maxRecDepth 100000
theorem qcE {n:Nat} {x lo hi:Int}:qas n x lo hi=some (inI x lo hi):=by
 simp only [qas,qmY,qoh];rfl
theorem qcZ {n:Nat} {x lo hi:Int}:qaG n x lo hi=some (inI x lo hi):=by
 simp only [qaG,qmY,qoh];rfl
def bt (s:ByteArray) (j:Nat):Nat:=(s.data.toList.getD j 0).toNat
theorem qwn {s:ByteArray} {j:Nat} (h:j<s.size):atS s (j:Int)=some (bt s j:Int):=by
 have h':j<s.data.size:=h
 have hl:j<s.data.toList.length:=by simpa using h'
 unfold atS
 rw [if_pos (by omega),jj]
 have:s[j]?=some (s.data.toList.getD j 0):=by
  rw [getElem?_pos s j h,jz,jf hl]
  rfl
 rw [this]
 rfl
def letB (b:Nat):Bool:=decide (97≤b)&&decide (b≤122)
def digB (b:Nat):Bool:=decide (48≤b)&&decide (b≤57)
def chB (s:ByteArray) (j:Nat):Bool:=letB (bt s j) || digB (bt s j)&&decide (0<j)
def nameB (s:ByteArray):Bool:=(decide (1≤s.size)&&decide (s.size≤8))&&allN (chB s) s.size
theorem ql2 {s:ByteArray} (h:okS s):Ev (fun n=>qfI n s) (nameB s):=by
 unfold okS at h
 have hL:Ev (fun n=>qdC s n 0) (bif allN (chB s) s.size then .nxt (s.size:Int) else .ret false):=by
  refine qed ?_ (fun j hj X hX=>?_)
  ·exact Ev.succ (by simp only [qdC,ql (jb _),cond_false];exact .done)
  ·refine Ev.succ ?_
   simp only [qdC,qk hj,cond_true,qwn hj,ja,qmY,qoh,wS j]
   have e1:(decide ((bt s j:Int) ≥ 97)&&decide ((bt s j:Int)≤122))=letB (bt s j):=by unfold letB;rw [jh];simp;omega
   have e2:(decide ((bt s j:Int) ≥ 48)&&decide ((bt s j:Int)≤57))=digB (bt s j):=by unfold digB;rw [jh];simp;omega
   have e3:decide ((j:Int) > 0)=decide (0<j):=by rw [jh];simp
   rw [e1,e2,e3]
   unfold chB
   cases letB (bt s j)<;>cases digB (bt s j)<;>cases decide (0<j)<;>first|exact hX|exact .done
 unfold qfI
 refine Ev.cast (r:=bif allN (chB s) s.size then (decide (1≤s.size)&&decide (s.size≤8)) else false) (Ev.bindB hL (fun _=>?_) (fun _=>.done)) ?_
 ·simp only [qmY,qoh]
  exact Ev.now (by congr 1;rw [jh];simp;omega)
 ·unfold nameB
  cases allN (chB s) s.size<;>simp
def cutset:List UInt8:=[97,98,99,100,101,102,103,104,105,106,107,108,109,110,111,112,113,114,115,116,117,118,119,120,121,122,48,49,50,51,52,53,54,55,56,57]
theorem qqt (b:UInt8):cutset.contains b=(letB b.toNat || digB b.toNat):=by
 have h0:(List.range 256).all (fun m=>cutset.contains (UInt8.ofNat m)==(letB (UInt8.ofNat m).toNat || digB (UInt8.ofNat m).toNat))=true:=by kernel_rfl
 have h:=List.all_eq_true.1 h0 b.toNat (List.mem_range.2 b.toNat_lt)
 rw [beq_iff_eq] at h
 simpa using h
def letters:List UInt8:=[97,98,99,100,101,102,103,104,105,106,107,108,109,110,111,112,113,114,115,116,117,118,119,120,121,122]
theorem qtN (m:Nat) (hm:m<256):decide ((Lib.indexByte letters m.toUInt8) ≥ 0)=letB m:=by
 have h0:(List.range 256).all (fun m=>decide ((Lib.indexByte letters m.toUInt8) ≥ 0)==letB m)=true:=by kernel_rfl
 have h:=List.all_eq_true.1 h0 m (List.mem_range.2 hm)
 rwa [beq_iff_eq] at h
theorem qq5 {α:Type} {p:α→Bool} {l:List α}:l.dropWhile p=[]↔∀ x,x ∈ l→p x=true:=by
 induction l with
 | nil=>simp
 | cons y l ih =>
  rw [List.dropWhile_cons]
  by_cases h:p y=true
  ·rw [if_pos h,ih];simp [h]
  ·rw [if_neg h];simp [h]
theorem qrb {α:Type} {p:α→Bool} {l:List α} (h:∀ x,x ∈ l.dropWhile p→p x=true):∀ x,x ∈ l→p x=true:=by
 induction l with
 | nil=>simp
 | cons y l ih =>
  rw [List.dropWhile_cons] at h
  by_cases hy:p y=true
  ·rw [if_pos hy] at h
   intro x hx
   rcases List.mem_cons.1 hx with rfl|hx
   ·exact hy
   ·exact ih h x hx
  ·rw [if_neg hy] at h
   exact h
theorem qwR {l cs:List UInt8}:Lib.trimS l cs=[]↔∀ x,x ∈ l→cs.contains x=true:=by
 unfold Lib.trimS Lib.trimRightS Lib.trimLeftS
 rw [qq5]
 constructor
 ·intro h x hx
  exact qrb (p:=(cs.contains ·)) (l:=l.reverse) (fun y hy=>h y (List.mem_reverse.2 hy)) x (List.mem_reverse.2 hx)
 ·intro h x hx
  exact h x (List.mem_reverse.1 ((List.dropWhile_suffix _).subset (List.mem_reverse.1 hx)))
theorem qhi {a b:ByteArray}:(a.toList==b.toList)=decide (a=b):=by
 rw [jh,beq_iff_eq,decide_eq_true_iff]
 constructor
 ·intro h
  exact ByteArray.ext (by have:=congrArg List.toArray h;simpa [ByteArray.toList_eq] using this)
 ·rintro rfl;rfl
end Go.Fw


namespace Go.Fw
open Go
set_option maxRecDepth 100000
theorem qxX {s:ByteArray} {j:Nat} (h:j<s.data.toList.length):bt s j=(s.data.toList[j]).toNat:=by
 unfold bt;rw [jz,jf h];rfl
theorem qyG {s:ByteArray} {j:Nat}:bt s j<256:=UInt8.toNat_lt _
theorem qoW {n:Nat} {s:ByteArray} (h:okS s):qhL n s=some (nameB s):=by
 unfold okS at h
 have hl:s.data.toList.length=s.size:=by simp
 simp only [qhL,qcZ,ja]
 cases hI:inI (s.size:Int) 1 8 with
 | false =>
  have hs:(decide (1≤s.size)&&decide (s.size≤8))=false:=by rw [qu6] at hI;rw [Bool.and_eq_false_iff,decide_eq_false_iff_not,decide_eq_false_iff_not];omega
  simp [nameB,hs]
 | true =>
  have hs:1≤s.size∧s.size≤8:=by rw [qa4] at hI;omega
  have hT:qh1 n s (⟨#[97,98,99,100,101,102,103,104,105,106,107,108,109,110,111,112,113,114,115,116,117,118,119,120,121,122,48,49,50,51,52,53,54,55,56,57]⟩:ByteArray)=some ⟨(Lib.trimS s.data.toList cutset).toArray⟩:=by
   unfold qh1
   rw [if_pos ⟨by omega,by decide,by decide⟩]
   rfl
  rw [hT]
  simp only [cond_true,ja]
  have hE:(((⟨(Lib.trimS s.data.toList cutset).toArray⟩:ByteArray).toList==(⟨#[]⟩:ByteArray).toList))=allN (fun j=>letB (bt s j) || digB (bt s j)) s.size:=by
   rw [qhi,jh,decide_eq_true_iff,qah]
   have:((⟨(Lib.trimS s.data.toList cutset).toArray⟩:ByteArray)=⟨#[]⟩)↔Lib.trimS s.data.toList cutset=[]:=by
    constructor
    ·intro he
     have:=congrArg (fun x:ByteArray=>x.data.toList) he
     simpa using this
    ·intro he;rw [he]
   rw [this,qwR]
   constructor
   ·intro hx j hj
    have hj':j<s.data.toList.length:=by omega
    have:=hx _ (jo hj')
    rw [qqt,←qxX hj'] at this
    exact this
   ·intro hx x hm
    obtain ⟨j,hj,rfl⟩:=jO hm
    have:=hx j (by omega)
    rw [qqt,←qxX hj]
    exact this
  rw [hE]
  have h0:atS s 0=some (bt s 0:Int):=qwn (j:=0) (by omega)
  have hI2:decide (Lib.indexByte letters (bt s 0:Int).toNat.toUInt8 ≥ 0)=letB (bt s 0):=by
   rw [jj];exact qtN _ qyG
  have hF:∀ b:Bool,(bif b then (atS s 0).bind fun y1=>(qga n (⟨#[97,98,99,100,101,102,103,104,105,106,107,108,109,110,111,112,113,114,115,116,117,118,119,120,121,122]⟩:ByteArray) (⟨y1⟩:IntK .u8)).bind fun r3=>some (decide (r3 ≥ 0)) else some false)=some (b&&letB (bt s 0)):=by
   intro b
   cases b with
   | false=>rfl
   | true =>
    rw [h0]
    simp only [cond_true,ja,qga,jw]
    exact congrArg some hI2
  rw [hF]
  congr 1
  have hs':(decide (1≤s.size)&&decide (s.size≤8))=true:=by simp [hs]
  unfold nameB
  rw [hs',jw,jh,jc,qah,qah]
  simp only [chB,Bool.or_eq_true,jc,decide_eq_true_eq]
  constructor
  ·rintro ⟨h1,h2⟩ j hj
   rcases Nat.eq_zero_or_pos j with rfl|hp
   ·exact .inl h2
   ·exact (h1 j hj).imp id (fun h=>⟨h,hp⟩)
  ·intro h1
   refine ⟨fun j hj=>(h1 j hj).imp id (fun h=>h.1),?_⟩
   rcases h1 0 (by omega) with h2|h2
   ·exact h2
   ·omega
def strAt (xs:List ByteArray) (j:Nat):ByteArray:=xs.getD j ByteArray.empty
theorem qnS {xs:List ByteArray} {j:Nat} (h:j<xs.length):strAt xs j=xs[j]:=by simp [strAt,h]
theorem qpV {xs:List ByteArray} {j:Nat} (h:j<xs.length):idx xs (j:Int)=some (strAt xs j):=by rw [qhZ h,qnS h]
def neB (xs:List ByteArray) (j i:Nat):Bool:=!decide (strAt xs i=strAt xs j)
def namesB (xs:List ByteArray):Bool:=allN (fun j=>nameB (strAt xs j)&&allN (neB xs j) j) xs.length
theorem qmS {xs:List ByteArray} (h:okL okS xs):Ev (fun n=>qf4 n xs) (namesB xs):=by
 have hl:=h.len
 have hL2:∀ j,j<xs.length→Ev (fun n=>qec xs (j:Int) n 0) (bif allN (neB xs j) j then .nxt (j:Int) else .ret false):=by
  intro j hj
  refine qed ?_ (fun i hi X hX=>Ev.succ ?_)
  ·exact Ev.succ (by simp only [qec,ql (jb _),cond_false];exact .done)
  ·simp only [qec,qk hi,cond_true,qpV (show i<xs.length by omega),qpV hj,ja,qhi,wS i]
   unfold neB
   cases decide (strAt xs i=strAt xs j)
   ·exact hX
   ·exact .done
 have hL1:Ev (fun n=>qd4 xs n 0) (bif namesB xs then .nxt (xs.length:Int) else .ret false):=by
  refine qed ?_ (fun j hj X hX=>Ev.succ ?_)
  ·exact Ev.succ (by simp only [qd4,ql (jb _),cond_false];exact .done)
  ·simp only [qd4,qk hj,cond_true,qpV hj,ja,wS j]
   refine Ev.bind (ql2 (by rw [qnS hj];exact h.at hj)) ?_
   cases nameB (strAt xs j)
   ·exact .done
   ·refine Ev.ff rfl (Ev.bind (hL2 j hj) ?_)
    cases allN (neB xs j) j
    ·exact .done
    ·exact hX
 unfold qf4
 refine Ev.bind hL1 ?_
 cases namesB xs<;>exact .done
theorem qsR {xs:List ByteArray} {v:ByteArray} (hl:xs.length≤1048576):Ev (fun n=>qe6 n xs v) (ixL (fun x=>decide (v=x)) xs) :=
 qfn (fin:=(xs.length:Int)) (Lf:=qbR xs v) (pf:=fun _ x=>some (decide (v=x))) (fun _ _=>.done)
  (fun n=>by simp only [qbR,ql (jb _),cond_false])
  (fun n j x hx=>by
   have hj:=(List.getElem?_eq_some_iff.1 hx).1
   simp only [qbR,qk hj,cond_true,qax hx,ja,qhi,wS j])
  (fun n=>by unfold qe6;congr 1;funext o;cases o<;>rfl)
theorem qqy {xs:List ByteArray} {v:ByteArray} (hl:xs.length≤1048576):Ev (fun n=>qdS n xs v) (xs.any fun x=>decide (v=x)):=by
 unfold qdS
 exact Ev.bind (qsR hl) (Ev.now (by rw [qmX]))
theorem qjf {xs:List ByteArray} (h:okL okS xs):Ev (fun n=>qdZ n xs) (namesB xs):=by
 have hl:=h.len
 have hL1:Ev (fun n=>qd9 xs n 0) (bif namesB xs then .nxt (xs.length:Int) else .ret false):=by
  refine qed ?_ (fun j hj X hX=>Ev.succ ?_)
  ·exact Ev.succ (by simp only [qd9,ql (jb _),cond_false];exact .done)
  ·have hs:subS xs 0 (j:Int)=some (xs.take j):=by
    unfold subS
    rw [if_pos ⟨by omega,by omega,by omega⟩]
    simp
   simp only [qd9,qk hj,cond_true,qpV hj,ja,hs,qoW (show okS (strAt xs j) by rw [qnS hj];exact h.at hj),wS j]
   cases nameB (strAt xs j)
   ·exact .done
   ·refine Ev.ff rfl (Ev.bind (qqy (by simp;omega)) ?_)
    have:((xs.take j).any fun x=>decide (strAt xs j=x)) = !allN (neB xs j) j:=by
     rw [qsO (d:=ByteArray.empty)]
     congr 1
     rw [jN,Nat.min_eq_left (by omega)]
     refine qhD (fun i hi=>?_)
     unfold neB strAt
     congr 1
     have:(xs.take j).getD i ByteArray.empty=xs.getD i ByteArray.empty:=by simp [jz,hi]
     rw [this]
     exact decide_eq_decide.2 eq_comm
    rw [this]
    cases allN (neB xs j) j
    ·exact .done
    ·exact hX
 unfold qdZ
 refine Ev.bind hL1 ?_
 cases namesB xs<;>exact .done
end Go.Fw


namespace Go.Fw
open Go
set_option maxRecDepth 100000
theorem qq2 {n:Nat} {x lo hi:Int}:qgP n x lo hi=some (!inI x lo hi):=by simp only [qgP,qcZ,ja]
theorem qdR {xs:List Int} {lo hi:Int} (hl:xs.length≤1048576):Ev (fun n=>qbK n xs lo hi) (xs.all fun x=>inI x lo hi):=by
 have h1:Ev (fun n=>qaQ n xs lo hi) (ixL (fun x=>!inI x lo hi) xs) :=
  qfn (fin:=(xs.length:Int)) (Lf:=qab xs lo hi) (pf:=fun _ x=>some (!inI x lo hi)) (fun _ _=>.done)
   (fun n=>by simp only [qab,ql (jb _),cond_false])
   (fun n j x hx=>by
    have hj:=(List.getElem?_eq_some_iff.1 hx).1
    simp only [qab,qk hj,cond_true,qax hx,ja,qq2,wS j])
   (fun n=>by unfold qaQ;congr 1;funext o;cases o<;>rfl)
 unfold qbK qbt
 refine Ev.bind (Ev.bind h1 (Ev.now rfl)) (Ev.now ?_)
 rw [qmX,qon]
def stepB (xs:List Int) (j:Nat):Bool:=decide (j=0) || decide (at0 xs (j-1)<at0 xs j)
def incB (xs:List Int):Bool:=allN (stepB xs) xs.length
theorem qmh {xs:List Int} (hl:xs.length≤1048576):Ev (fun n=>qeI n xs) (incB xs):=by
 have hL:Ev (fun n=>qbq xs n 1) (bif incB xs then .nxt (max 1 xs.length:Int) else .ret false):=by
  by_cases h0:xs.length=0
  ·have hb:incB xs=true:=by unfold incB;rw [h0];rfl
   rw [hb]
   refine Ev.succ ?_
   have:decide ((1:Int)<(xs.length:Int))=false:=by rw [h0];decide
   simp only [qbq,this,cond_false]
   exact Ev.now (by rw [h0];rfl)
  ·have:=quz (Lf:=qbq xs) (len:=xs.length) (i0:=1) (f:=stepB xs) (bad:=false) (fin:=.nxt (max 1 xs.length:Int)) (by omega)
    (Ev.succ (by
     simp only [qbq,ql (jb _),cond_false]
     exact Ev.now (by congr 2;omega)))
    (fun j h1 hj X hX=>Ev.succ (by
     simp only [qbq,qk hj,cond_true,wS j,show (j:Int)-1=((j-1:Nat):Int) by omega,qaw (show -9223372036854775808≤((j-1:Nat):Int) by omega) (by omega),qae (show j-1<xs.length by omega),qae hj,ja]
     unfold stepB
     by_cases hc:at0 xs (j-1)<at0 xs j
     ·have e1:decide (at0 xs (j-1) ≥ at0 xs j)=false:=by simp;omega
      rw [e1];simp only [hc,decide_true,Bool.or_true,cond_true,cond_false];exact hX
     ·have e1:decide (at0 xs (j-1) ≥ at0 xs j)=true:=by simp;omega
      have e2:decide (j=0)=false:=by simp;omega
      rw [e1,e2];simp only [hc,decide_false,Bool.or_self,cond_true,cond_false];exact .done))
   have e:allN (fun j=>stepB xs (1+j)) (xs.length-1)=incB xs:=by
    unfold incB
    rw [jh,qah,qah]
    constructor
    ·intro h j hj
     cases j with
     | zero=>rfl
     | succ j=>have:=h j (by omega);rwa [Nat.add_comm] at this
    ·intro h j hj
     exact h (1+j) (by omega)
   rw [e] at this
   exact this
 unfold qeI
 refine Ev.bind hL ?_
 cases incB xs<;>exact .done
def lenB {α:Type} (xs:List α) (lo hi:Nat):Bool:=decide (lo≤xs.length)&&decide (xs.length≤hi)
theorem qsr {α:Type} {xs:List α} {lo hi:Nat}:inI (xs.length:Int) (lo:Int) (hi:Int)=lenB xs lo hi:=by
 unfold inI lenB;rw [jh];simp
def axisB (xs:List Int):Bool:=lenB xs 1 4&&((xs.all fun x=>inI x 0 100000)&&incB xs)
theorem qrF {xs:List Int} (hl:xs.length≤1048576):Ev (fun n=>qi5 n xs) (axisB xs):=by
 simp only [qi5,qbm,ja,qcZ,show inI (xs.length:Int) 1 4=lenB xs 1 4 from qsr (lo:=1) (hi:=4)]
 unfold axisB
 cases lenB xs 1 4
 ·exact .done
 ·refine Ev.tt rfl (Ev.bind (qdR hl) ?_)
  cases (xs.all fun x=>inI x 0 100000)
  ·exact .done
  ·exact Ev.tt rfl (Ev.bind (qmh hl) .done)
theorem qqb {xs:List Int} (hl:xs.length≤1048576):Ev (fun n=>qh2 n xs) (axisB xs):=by
 have hL:Ev (fun n=>qdz xs n 0) (bif allN (fun j=>inI (at0 xs j) 0 100000&&stepB xs j) xs.length then .nxt (xs.length:Int) else .ret false):=by
  refine qed ?_ (fun j hj X hX=>Ev.succ ?_)
  ·exact Ev.succ (by simp only [qdz,ql (jb _),cond_false];exact .done)
  ·simp only [qdz,qk hj,cond_true,qae hj,ja,qcE,wS j]
   cases inI (at0 xs j) 0 100000
   ·exact .done
   ·simp only [jW,cond_false,jw]
    unfold stepB
    by_cases h0:j=0
    ·subst h0
     exact Ev.ff (by decide) hX
    ·simp only [show (j:Int)-1=((j-1:Nat):Int) by omega,qaw (show -9223372036854775808≤((j-1:Nat):Int) by omega) (by omega),qae (show j-1<xs.length by omega),ja]
     have e2:decide (j=0)=false:=by simp;omega
     have e3:decide ((j:Int) > 0)=true:=by simp;omega
     rw [e2,e3]
     simp only [cond_true,Bool.false_or]
     by_cases hc:at0 xs (j-1)<at0 xs j
     ·have e1:decide (at0 xs (j-1) ≥ at0 xs j)=false:=by simp;omega
      rw [e1];simp only [hc,decide_true,cond_true,cond_false];exact hX
     ·have e1:decide (at0 xs (j-1) ≥ at0 xs j)=true:=by simp;omega
      rw [e1];simp only [hc,decide_false,cond_true,cond_false];exact .done
 have e:axisB xs=(allN (fun j=>inI (at0 xs j) 0 100000&&stepB xs j) xs.length&&lenB xs 1 4):=by
  unfold axisB incB
  rw [qlh,qgn (d:=0),Bool.and_comm]
  rfl
 rw [e]
 unfold qh2
 refine Ev.bind hL ?_
 cases allN (fun j=>inI (at0 xs j) 0 100000&&stepB xs j) xs.length
 ·exact .done
 ·simp only [cond_true,qmY,qoh,jw]
  exact Ev.now (by congr 1;unfold lenB;rw [jh];simp;omega)
def tableB (t:qx):Bool:=axisB t.Bm&&(axisB t.Bj&&(decide (t.Bh.length=t.Bm.length*t.Bj.length)&&(t.Bh.all fun x=>inI x (-1000000) 1000000)))
theorem qup {a b:Nat} (ha:a≤1048576) (hb:b≤1048576):W64 ((a:Int)*(b:Int))=((a*b:Nat):Int):=by
 have h:a*b≤1048576*1048576:=Nat.mul_le_mul ha hb
 have e:(a:Int)*(b:Int)=((a*b:Nat):Int):=by simp
 rw [e]
 exact qaw (by omega) (by omega)
theorem qty {t:qx} (h:qik t):Ev (fun n=>qjA n t) (tableB t):=by
 unfold qjA tableB
 refine Ev.bind (qrF h.Bm.len) ?_
 cases axisB t.Bm
 ·exact .done
 ·refine Ev.tt rfl (Ev.bind (qrF h.Bj.len) ?_)
  cases axisB t.Bj
  ·exact .done
  ·rw [qup h.Bm.len h.Bj.len]
   have e:(((t.Bh.length:Nat):Int)==((t.Bm.length*t.Bj.length:Nat):Int))=decide (t.Bh.length=t.Bm.length*t.Bj.length):=by rw [jh];simp;omega
   rw [e]
   cases decide (t.Bh.length=t.Bm.length*t.Bj.length)
   ·exact .done
   ·exact Ev.tt rfl (Ev.tt rfl (Ev.bind (qdR h.Bh.len) .done))
theorem qsJ {t:qx} (h:qik t):Ev (fun n=>qjz n t) (tableB t):=by
 have hl:=h.Bh.len
 have hL:Ev (fun n=>qey t n 0) (bif (t.Bh.all fun x=>inI x (-1000000) 1000000) then .nxt (t.Bh.length:Int) else .ret false) :=
  qoc (fun n=>by simp only [qey,ql (jb _),cond_false]) (fun j hj X hX=>by
   simp only [qey,qk hj,cond_true,qhZ hj,ja,qcE,wS j]
   cases inI t.Bh[j] (-1000000) 1000000
   ·exact .done
   ·exact hX)
 unfold qjz tableB
 refine Ev.bind (b:=!(axisB t.Bm&&(axisB t.Bj&&decide (t.Bh.length=t.Bm.length*t.Bj.length)))) ?_ ?_
 ·refine Ev.bind (qqb h.Bm.len) ?_
  cases axisB t.Bm
  ·exact .done
  ·refine Ev.ff rfl (Ev.bind (qqb h.Bj.len) ?_)
   cases axisB t.Bj
   ·exact .done
   ·refine Ev.ff rfl (Ev.now ?_)
    rw [qup h.Bm.len h.Bj.len]
    congr 1
    rw [jh];simp;omega
 ·cases axisB t.Bm
  ·exact .done
  ·cases axisB t.Bj
   ·exact .done
   ·cases decide (t.Bh.length=t.Bm.length*t.Bj.length)
    ·exact .done
    ·refine Ev.ff rfl (Ev.bind hL ?_)
     cases (t.Bh.all fun x=>inI x (-1000000) 1000000)<;>exact .done
end Go.Fw


namespace Go.Fw
open Go
set_option maxRecDepth 100000
instance:Inhabited qar:=⟨⟨ByteArray.empty,0,0,false⟩⟩
instance:Inhabited qx:=⟨⟨[],[],[]⟩⟩
instance:Inhabited qP:=⟨⟨0,0,0,0,[],[]⟩⟩
instance:Inhabited qB:=⟨⟨ByteArray.empty,0,[],[],[],0,0⟩⟩
instance:Inhabited qp:=⟨⟨ByteArray.empty,0,[]⟩⟩
instance:Inhabited qal:=⟨⟨ByteArray.empty,0,0⟩⟩
instance:Inhabited qQ:=⟨⟨[],[],[],[]⟩⟩
theorem lastE {j m:Nat} (h:j<m) (hm:m≤1048576):((j:Int)==W64 ((m:Int)-1))=decide (j+1=m):=by
 rcases qw7 h with h|h
 ·exact h
 ·omega
theorem qjX {α:Type} [Inhabited α] {xs:List α} {g:α→ByteArray} {j:Nat} (h:j<xs.length):strAt (xs.map g) j=g (gt xs j):=by
 rw [qnS (by simpa using h),qe4 h];simp
theorem qnf {α:Type} {xs:List α} {g:α→ByteArray} {ok:α→Prop} (h:okL ok xs) (hg:∀ x,ok x→okS (g x)):okL okS (xs.map g) :=
 ⟨by rw [jv];exact h.1,fun y hy=>by
  obtain ⟨x,hx,rfl⟩:=List.mem_map.1 hy
  exact hg x (h.2 x hx)⟩
theorem qlD {α β:Type} {xs:List α} {g:α→β} {j:Nat} (h:j<xs.length) (hl:xs.length≤1048576) {y:β}:appS ((xs.take j).map g) [y]=some ((xs.take j).map g++[y]) :=
 qcS (by simp;omega)
def pinB (ps:List qar) (j:Nat):Bool :=
 bif decide (j+1=ps.length) then ((gt ps j).Bv==2)&&(((gt ps j).Bt==0)&&!(gt ps j).Bq) else ((gt ps j).Bv==1)&&inI (gt ps j).Bt 0 500
def pinsB (ps:List qar):Bool:=allN (pinB ps) ps.length&&(lenB ps 2 5&&namesB (ps.map qar.Bb))
def clkN (ps:List qar) (j:Nat):Nat:=cntP (fun i=>(gt ps i).Bq) j
theorem qtZ {ps:List qar} (h:okL qmN ps):Ev (fun n=>qjR n ps) (pinsB ps):=by
 have hl:=h.len
 have hL:Ev (fun n=>qcK ps n ([]:List ByteArray) 0) (bif allN (pinB ps) ps.length then .nxt (ps.map qar.Bb,(ps.length:Int)) else .ret false):=by
  refine loopN (Lf:=qcK ps) (S:=fun j=>(ps.take j).map qar.Bb) (pinB ps) (fun n=>?_) (fun j hj hp X hX=>?_)
  ·simp only [qcK,ql (jb _),cond_false,jB]
  ·simp only [qcK,qk hj,cond_true,qA hj,ja,qlD hj hl,qfA (g:=qar.Bb) hj,lastE hj hl,bne,qcV,qcZ,wS j]
   generalize hc:pinB ps j=c at hX ⊢
   unfold pinB at hc
   cases hd:decide (j+1=ps.length)
   ·rw [hd] at hc
    simp only [cond_false] at hc ⊢
    subst hc
    exact Ev.okP (fun h1=>Ev.okP1 (fun h2=>hX (by rw [h1,h2];rfl)))
   ·rw [hd] at hc
    simp only [cond_true] at hc ⊢
    subst hc
    refine Ev.okP (fun h1=>Ev.okP (fun h2=>Ev.chkP1 (fun h3=>hX (by rw [h1,h2,h3];rfl))))
 unfold qjR pinsB
 refine Ev.bind hL ?_
 cases allN (pinB ps) ps.length
 ·exact .done
 ·simp only [cond_true,qcn,qcZ,ja,show inI (ps.length:Int) 2 5=lenB ps 2 5 from qsr (lo:=2) (hi:=5),jw]
  exact Ev.andP (fun _=>Ev.last (qjf (qnf h (fun x hx=>hx.Bb))))
def pinS (ps:List qar) (j:Nat):Bool:=allN (neB (ps.map qar.Bb) j) j&&((nameB (gt ps j).Bb&&inI (gt ps j).Bt 0 500)&&(bif decide (j+1=ps.length) then ((gt ps j).Bv==2)&&(((gt ps j).Bt==0)&&!(gt ps j).Bq) else ((gt ps j).Bv==1)))
theorem qxA {ps:List qar}:(lenB ps 2 5&&allN (pinS ps) ps.length)=pinsB ps:=by
 have e:namesB (ps.map qar.Bb)=allN (fun j=>nameB (gt ps j).Bb&&allN (neB (ps.map qar.Bb) j) j) ps.length:=by
  unfold namesB
  rw [jv]
  exact qhD (fun j hj=>by rw [qjX hj])
 unfold pinsB
 rw [e,←Bool.and_assoc,Bool.and_comm (allN (pinB ps) ps.length),Bool.and_assoc,←qlh]
 congr 1
 refine qhD (fun j hj=>?_)
 unfold pinS pinB
 cases hd:decide (j+1=ps.length)
 ·simp only [cond_false]
  cases allN (neB (ps.map qar.Bb) j) j<;>cases nameB (gt ps j).Bb<;>cases inI (gt ps j).Bt 0 500<;>cases ((gt ps j).Bv==1)<;>rfl
 ·simp only [cond_true]
  cases hcap:((gt ps j).Bt==0)
  ·simp
  ·have:inI (gt ps j).Bt 0 500=true:=by rw [beq_iff_eq] at hcap;rw [hcap];rfl
   rw [this]
   cases allN (neB (ps.map qar.Bb) j) j<;>cases nameB (gt ps j).Bb<;>cases ((gt ps j).Bv==2)<;>cases (gt ps j).Bq<;>rfl
theorem quh {c:qB} (h:okL qmN c.Be):Ev (fun n=>qjC n c) (bif pinsB c.Be then (((clkN c.Be c.Be.length:Nat):Int),true) else (0,false)):=by
 have hl:=h.len
 have hL2:∀ j,j<c.Be.length→Ev (fun n=>qev c (j:Int) (gt c.Be j) n 0) (bif allN (neB (c.Be.map qar.Bb) j) j then .nxt (j:Int) else .ret (0,false)):=by
  intro j hj
  refine qed ?_ (fun i hi X hX=>Ev.succ ?_)
  ·exact Ev.succ (by simp only [qev,ql (jb _),cond_false];exact .done)
  ·simp only [qev,qk hi,cond_true,qA (show i<c.Be.length by omega),ja,qhi,wS i]
   unfold neB
   rw [qjX (g:=qar.Bb) (show i<c.Be.length by omega),qjX (g:=qar.Bb) hj]
   exact Ev.chkP1 (fun _=>hX)
 have hL1:Ev (fun n=>qcN c n 0 0) (bif allN (pinS c.Be) c.Be.length then .nxt (((clkN c.Be c.Be.length:Nat):Int),(c.Be.length:Int)) else .ret (0,false)):=by
  refine loopN (Lf:=qcN c) (S:=fun j=>((clkN c.Be j:Nat):Int)) (pinS c.Be) (fun n=>?_) (fun j hj hp X hX=>?_)
  ·simp only [qcN,ql (jb _),cond_false]
  ·have hn:clkN c.Be j≤j:=qfD
   have ejl:((j:Int)==W64 ((c.Be.length:Int)-1))=decide (j+1=c.Be.length):=lastE hj hl
   have elt:decide ((j:Int)<W64 ((c.Be.length:Int)-1)) = !decide (j+1=c.Be.length):=by
    rw [qaw (by omega) (by omega),jh];simp;omega
   simp only [qcN,qk hj,cond_true,qA hj,ja,wS j,qid (show clkN c.Be j<9223372036854775807 by omega),ejl,elt,qcE]
   unfold pinS
   refine Ev.bind (hL2 j hj) ?_
   cases ha:allN (neB (c.Be.map qar.Bb) j) j
   ·exact .done
   ·simp only [cond_true,jw]
    refine Ev.chkT ?_ (fun h1=>?_)
    ·exact Ev.or (ql2 (qmA h hj).Bb) (fun _=>.done)
    ·refine Ev.chkT1 ?_ (fun h2=>?_)
     ·cases decide (j+1=c.Be.length)
      ·exact .done
      ·simp only [cond_true,jW,cond_false,bne,qcV]
       cases ((gt c.Be j).Bv==2)<;>cases ((gt c.Be j).Bt==0)<;>cases (gt c.Be j).Bq<;>exact .done
     ·have hX:=hX (by unfold pinS;rw [ha,h1,h2];rfl)
      have hck:clkN c.Be (j+1)=clkN c.Be j+(bif (gt c.Be j).Bq then 1 else 0):=rfl
      rw [hck] at hX
      cases hc:(gt c.Be j).Bq
      ·rw [hc] at hX;exact Ev.ff rfl hX
      ·rw [hc] at hX;exact Ev.tt rfl hX
 rw [←qxA]
 unfold qjC
 refine Ev.guard ?_ (fun h1=>?_)
 ·unfold lenB
  have e1:decide ((c.Be.length:Int)<2) = !decide (2≤c.Be.length):=by rw [jh];simp;omega
  have e2:decide ((c.Be.length:Int) > 5) = !decide (c.Be.length≤5):=by rw [jh];simp;omega
  rw [e1,e2]
  cases decide (2≤c.Be.length)<;>cases decide (c.Be.length≤5)<;>exact .done
 ·refine Ev.bind hL1 ?_
  cases allN (pinS c.Be) c.Be.length<;>exact .done
def mnL (xs:List Int):Int:=(xs.drop 1).foldl (fun m y=>if y<m then y else m) (at0 xs 0)
def mxL (xs:List Int):Int:=(xs.drop 1).foldl (fun m y=>if y > m then y else m) (at0 xs 0)
theorem qqn {t:qx} (h:tableB t=true):1≤t.Bh.length:=by
 unfold tableB axisB lenB at h
 simp only [jc,decide_eq_true_eq] at h
 obtain ⟨⟨⟨h1,_⟩,_⟩,⟨⟨h2,_⟩,_⟩,h3,_⟩:=h
 rw [h3]
 exact Nat.mul_pos h1 h2
theorem qxL {xs:List Int} (h1:1≤xs.length) (hl:xs.length≤1048576):Ev (fun n=>qgH n xs) (mnL xs):=by
 have hL:=(qoE (Lf:=fun n t j=>qcJ xs n t j) (xs:=xs) (step:=fun (m y:Int)=>if y<m then y else m) (fin:=fun t=>(t,(xs.length:Int))) 1 (at0 xs 0) (fun _ _=>True) h1 trivial (fun _ _ _ _=>trivial)
  (fun n t=>by simp only [qcJ,ql (jb _),cond_false])
  (fun j t hj _ X hX=>by simpa only [qcJ,qk hj,cond_true,qhZ hj,ja,wS j] using hX)).1
 unfold qgH
 rw [show decide ((xs.length:Int)<1)=false by simp;omega,show idx xs (0:Int)=some (at0 xs 0) from qae (j:=0) (by omega)]
 simp only [cond_false,ja]
 exact Ev.bind hL .done
theorem qtE {t:qx} (h:qik t):Ev (fun n=>qgV n t) (bif tableB t then (⟨mnL t.Bh,mxL t.Bh⟩,0) else (⟨0,0⟩,1)):=by
 unfold qgV
 refine Ev.chk1 (qsJ h) (fun hb=>?_)
 have h1:=qqn hb
 have hl:=h.Bh.len
 have hL:=(qoE (Lf:=fun n (t':Int × Int) j=>qcH t n t'.1 t'.2 j) (xs:=t.Bh) (step:=fun (m:Int × Int) y=>(if y<m.1 then y else m.1,if y > m.2 then y else m.2)) (fin:=fun t'=>(t'.1,t'.2,(t.Bh.length:Int))) 1 (at0 t.Bh 0,at0 t.Bh 0) (fun _ _=>True) h1 trivial (fun _ _ _ _=>trivial)
  (fun n t=>by simp only [qcH,ql (jb _),cond_false])
  (fun j t hj _ X hX=>by simpa only [qcH,qk hj,cond_true,qhZ hj,ja,wS j] using hX)).1
 have hf:∀ (ys:List Int) (a b:Int),ys.foldl (fun (m:Int × Int) y=>(if y<m.1 then y else m.1,if y > m.2 then y else m.2)) (a,b)=(ys.foldl (fun m y=>if y<m then y else m) a,ys.foldl (fun m y=>if y > m then y else m) b):=by
  intro ys
  induction ys with
  | nil=>intro a b;rfl
  | cons y ys ih=>intro a b;simp only [List.foldl_cons,ih]
 rw [hf] at hL
 rw [show idx t.Bh (0:Int)=some (at0 t.Bh 0) from qae (j:=0) (by omega)]
 simp only [ja]
 exact Ev.bind hL .done
def tabB (pos:Bool) (t:qx):Bool:=tableB t&&(!pos || decide (0≤mnL t.Bh))
def tablesB (ts:List qx) (pos:Bool):Bool:=decide (ts.length=2)&&ts.all (tabB pos)
theorem qlX {ts:List qx} {pos:Bool} (h:okL qik ts):Ev (fun n=>qfr n ts pos) (tablesB ts pos):=by
 have hl:=h.len
 have h1:Ev (fun n=>qaB n ts pos) (ixL (fun x=>!tabB pos x) ts) :=
  qfn (fin:=(ts.length:Int)) (Lf:=qM ts pos) (pf:=fun n x=>qgO n x pos) (fun x hx=>by
    unfold qgO tabB
    refine Ev.or (qty (h.2 x hx)) (fun hb=>?_)
    cases pos
    ·exact .done
    ·refine Ev.tt rfl (Ev.bind (qxL (qqn hb) (h.2 x hx).Bh.len) (Ev.now ?_))
     congr 1
     rw [jh];simp)
   (fun n=>by simp only [qM,ql (jb _),cond_false])
   (fun n j x hx=>by
    have hj:=(List.getElem?_eq_some_iff.1 hx).1
    simp only [qM,qk hj,cond_true,qax hx,ja,wS j])
   (fun n=>by unfold qaB;congr 1;funext o;cases o<;>rfl)
 unfold qfr qaZ tablesB
 rw [show ((ts.length:Int)==2)=decide (ts.length=2) by rw [jh];simp;omega]
 refine Ev.andP (fun _=>Ev.bind (Ev.bind h1 (Ev.now rfl)) (Ev.now ?_))
 rw [qmX,qon]
theorem qib {ts:List qx} {pos:Bool} (h:okL qik ts):Ev (fun n=>qdh n ts pos) (tablesB ts pos):=by
 unfold qdh tablesB
 rw [show ((ts.length:Int) != 2) = !decide (ts.length=2) by rw [jh];simp;omega]
 simp only [qcV]
 refine Ev.andP (fun h2=>?_)
 have h2:ts.length=2:=by simpa using h2
 have hL:Ev (fun n=>qcv ts pos n 0) (bif allN (fun j=>tabB pos (gt ts j)) ts.length then .nxt (2:Int) else .ret false):=by
  refine qed (len:=ts.length) ?_ (fun j hj X hX=>Ev.succ ?_)
  ·rw [h2];exact Ev.succ (by simp only [qcv];exact .done)
  ·simp only [qcv,show decide ((j:Int)<2)=true by simp;omega,cond_true,qA hj,ja,wS j]
   refine Ev.bind (qtE (qmA h hj)) ?_
   unfold tabB
   cases tableB (gt ts j)
   ·exact .done
   ·simp only [cond_true,jw]
    refine Ev.ff rfl ?_
    cases pos
    ·exact hX
    ·refine Ev.tt rfl ?_
     rw [show decide (mnL (gt ts j).Bh<0) = !decide (0≤mnL (gt ts j).Bh) by rw [jh];simp]
     simp only [qcV]
     exact Ev.okP1 (fun _=>hX)
 rw [qh4]
 refine Ev.bind hL ?_
 cases allN (fun j=>tabB pos (gt ts j)) ts.length<;>exact .done
end Go.Fw


namespace Go.Fw
open Go
set_option maxRecDepth 100000
theorem qdD {α:Type} [Inhabited α] {xs:List α} {x:Int} (h0:0≤x) (h1:x<xs.length):idx xs x=some (gt xs x.toNat):=by
  have:=qA (xs:=xs) (j:=x.toNat) (by omega)
  rwa [←qem h0] at this
theorem qrN {q:Nat→Bool} {m n:Nat} (h:m≤n):cntP q m≤cntP q n:=by
  induction n with
  | zero =>
    obtain rfl:m=0:=by omega
    exact jb _
  | succ n ih =>
    rcases Nat.lt_or_eq_of_le h with h|rfl
    · exact Nat.le_trans (ih (by omega)) (Nat.le_add_right _ _)
    · exact jb _
theorem qm7 {m k:Nat}:decide ((m:Int)≤(k:Int))=decide (m≤k):=by rw [jh];simp
theorem qs1 {q:Nat→Bool} {n i j:Nat} (hi:i<j) (hj:j<n) (h1:q i=true) (h2:q j=true):2≤cntP q n:=by
  have e1:cntP q (i+1)=cntP q i+1:=by rw [cntP,h1];rfl
  have e2:cntP q (j+1)=cntP q j+1:=by rw [cntP,h2];rfl
  have m1:=qrN (q:=q) (show i+1≤j by omega)
  have m2:=qrN (q:=q) (show j+1≤n by omega)
  omega
theorem qsD {q:Nat→Bool} {n i j:Nat} (hn:cntP q n≤1) (hi:i<n) (hj:j<n) (h1:q i=true) (h2:q j=true):i=j:=by
  rcases Nat.lt_trichotomy i j with h|h|h
  · have:=qs1 h hj h1 h2;omega
  · exact h
  · have:=qs1 h hi h2 h1;omega
def clkIx (ps:List qar):Int:=ixL (fun p=>p.Bq) ps
def clkAt (ps:List qar) (x:Int):Bool:=(gt ps x.toNat).Bq
theorem qwK {c:qB} (hl:c.Be.length≤1048576):Ev (fun n=>qhr n c) (clkIx c.Be):=by
  unfold qhr
  refine Ev.bind (b:=clkIx c.Be) ?_ .done
  exact qfn (fin:=(c.Be.length:Int)) (Lf:=qT c.Be) (pf:=fun n x=>qip n x) (fun _ _=>.done)
    (fun n=>by simp only [qT,ql (jb _),cond_false])
    (fun n j x hx=>by
      have hj:=(List.getElem?_eq_some_iff.1 hx).1
      simp only [qT,qk hj,cond_true,qax hx,ja,wS j])
    (fun n=>by unfold qbo;congr 1;funext o;cases o<;>rfl)
def arcI (ps:List qar) (a:qP):Bool :=
  bif (a.Bf==4) || (a.Bf==5) then
    (a.Bn==0)&&(((a.Bc.length:Int)==0)&&(tablesB a.Bp false&&((a.Bk==clkIx ps)&&(decide (a.Bk ≥ 0)&&(inI a.To 0 (ps.length-2)&&!(a.To==a.Bk))))))
  else
    (tablesB a.Bp true&&(tablesB a.Bc true&&((a.To==(ps.length:Int)-1)&&inI a.Bk 0 (ps.length-2)))) &&
      (bif a.Bf==1 then !clkAt ps a.Bk&&inI a.Bn 1 3 else (bif (a.Bf==2) || (a.Bf==3) then clkAt ps a.Bk&&(a.Bn==0) else false))
def arcS (ps:List qar) (a:qP):Bool :=
  (inI a.Bk 0 (ps.length-2)&&inI a.To 0 (ps.length-1)) &&
    (bif a.Bf==1 then !clkAt ps a.Bk&&((a.To==(ps.length:Int)-1)&&(inI a.Bn 1 3&&(tablesB a.Bp true&&tablesB a.Bc true)))
     else (bif (a.Bf==2) || (a.Bf==3) then clkAt ps a.Bk&&((a.To==(ps.length:Int)-1)&&((a.Bn==0)&&(tablesB a.Bp true&&tablesB a.Bc true)))
     else (bif (a.Bf==4) || (a.Bf==5) then clkAt ps a.Bk&&(decide (a.To<(ps.length:Int)-1)&&(!clkAt ps a.To&&((a.Bn==0)&&(tablesB a.Bp false&&((a.Bc.length:Int)==0))))) else false)))
theorem qpc {c d:Bool}:(bif c then some c else some d)=some (c || d):=by cases c<;>rfl
theorem qsT {c d:Bool}:(bif c then some true else some d)=some (c || d):=by cases c<;>rfl
theorem qtV {n:Nat} {k:Int}:qjJ n k=some ((k==4) || (k==5)):=by simp only [qjJ,qsT]
theorem qwg {c:qB} {a:qP} (h:okL qmN c.Be) (ha:qnB a) (hm:2≤c.Be.length):Ev (fun n=>qhu n c a) (arcI c.Be a):=by
  have hl:=h.len
  have e1:W64 ((c.Be.length:Int)-1)=(c.Be.length:Int)-1:=qeP (by omega)
  have e2:W64 ((c.Be.length:Int)-1-1)=(c.Be.length:Int)-2:=by rw [qaw (by omega) (by omega)];omega
  simp only [qhu,qtV,ja,qgb,qd0,qcn,e1,e2,qcZ,qpc,bne]
  unfold arcI
  refine Ev.iff (fun _=>Ev.last ?_) (fun _=>Ev.guardB ?_ (fun hb=>?_))
  · exact Ev.andP fun _=>Ev.andP fun _=>Ev.and (qlX ha.Bp) fun _=>Ev.bind (qwK hl) (Ev.andP fun _=>Ev.andP fun _=>Ev.andP fun _=>.done)
  · refine Ev.or (qlX ha.Bp) fun _=>Ev.or (qlX ha.Bc) fun _=>?_
    simp only [qcV]
    exact Ev.orBP fun _=>.done
  · have hf:0≤a.Bk∧a.Bk≤(c.Be.length:Int)-2:=by
      simp only [jc,qa4] at hb
      exact hb.2.2.2
    simp only [qdD hf.1 (show a.Bk<(c.Be.length:Int) by omega),ja]
    exact Ev.iff (fun _=>Ev.andP fun _=>.done) (fun _=>Ev.iff (fun _=>Ev.andP fun _=>.done) (fun _=>.done))
theorem quE {c:qB} {a:qP} (h:okL qmN c.Be) (ha:qnB a) (hm:2≤c.Be.length):Ev (fun n=>qkL n c a) (arcS c.Be a):=by
  have hl:=h.len
  have e1:W64 ((c.Be.length:Int)-1)=(c.Be.length:Int)-1:=qeP (by omega)
  have e2:W64 ((c.Be.length:Int)-1-1)=(c.Be.length:Int)-2:=by rw [qaw (by omega) (by omega)];omega
  simp only [qkL,ja,e1,e2,qcE,qpc]
  unfold arcS
  refine Ev.guardB ?_ (fun hb=>?_)
  · simp only [qcV]
    exact Ev.orBP fun _=>.done
  · have hf:(0≤a.Bk∧a.Bk≤(c.Be.length:Int)-2)∧(0≤a.To∧a.To≤(c.Be.length:Int)-1):=by
      simp only [jc,qa4] at hb
      exact hb
    simp only [qdD hf.1.1 (show a.Bk<(c.Be.length:Int) by omega),qdD hf.2.1 (show a.To<(c.Be.length:Int) by omega),ja]
    refine Ev.iff (fun _=>?_) (fun _=>Ev.iff (fun _=>?_) (fun _=>Ev.iff (fun _=>?_) (fun _=>.done)))
    · exact Ev.andP fun _=>Ev.andP fun _=>Ev.andP fun _=>Ev.and (qib ha.Bp) fun _=>Ev.last (qib ha.Bc)
    · exact Ev.andP fun _=>Ev.andP fun _=>Ev.andP fun _=>Ev.and (qib ha.Bp) fun _=>Ev.last (qib ha.Bc)
    · exact Ev.andP fun _=>Ev.andP fun _=>Ev.andP fun _=>Ev.andP fun _=>Ev.and (qib ha.Bp) fun _=>.done
theorem qoB {ps:List qar} (h1:clkN ps ps.length≤1) {x:Int} (hx:0≤x):clkIx ps=x↔x<ps.length∧clkAt ps x=true:=by
  unfold clkIx ixL
  cases hf:ps.findIdx? (fun p=>p.Bq) with
  | some j =>
    obtain ⟨hj,hp,_⟩:=List.findIdx?_eq_some_iff_getElem.1 hf
    have hpj:(gt ps j).Bq=true:=by rw [qe4 hj];exact hp
    constructor
    · intro e
      have e:(j:Int)=x:=e
      subst e
      exact ⟨by omega,by unfold clkAt;rw [jj];exact hpj⟩
    · rintro ⟨hl,hc⟩
      have:=qsD h1 hj (show x.toNat<ps.length by omega) hpj hc
      show (j:Int)=x
      omega
  | none =>
    have hn:=List.findIdx?_eq_none_iff.1 hf
    constructor
    · intro e
      have e:(-1:Int)=x:=e
      omega
    · rintro ⟨hl,hc⟩
      have hxl:x.toNat<ps.length:=by omega
      unfold clkAt at hc
      rw [qe4 hxl] at hc
      have:=hn _ (jo hxl)
      rw [hc] at this
      exact absurd this (by decide)
theorem qgv {ps:List qar} (h:pinsB ps=true):(2≤ps.length∧ps.length≤5)∧clkAt ps ((ps.length:Int)-1)=false:=by
  unfold pinsB lenB at h
  simp only [jc,decide_eq_true_eq] at h
  refine ⟨h.2.1,?_⟩
  have h1:=qah.1 h.1 (ps.length-1) (by omega)
  unfold pinB at h1
  rw [show decide (ps.length-1+1=ps.length)=true by simp;omega] at h1
  simp only [cond_true,jc,jE] at h1
  unfold clkAt
  rw [show ((ps.length:Int)-1).toNat=ps.length-1 by omega]
  exact h1.2.2
theorem qv9 {ps:List qar} {a:qP} (h:pinsB ps=true) (h1:clkN ps ps.length≤1):arcI ps a=arcS ps a:=by
  obtain ⟨⟨hm,hm5⟩,hlast⟩:=qgv h
  rw [jh]
  unfold arcI arcS
  cases h45:((a.Bf==4) || (a.Bf==5)) with
  | true =>
    have k1:(a.Bf==1)=false:=by simp at h45 ⊢;omega
    have k23:((a.Bf==2) || (a.Bf==3))=false:=by simp at h45 ⊢;omega
    rw [k1,k23]
    simp only [cond_true,cond_false,jc,qa4,decide_eq_true_eq,beq_iff_eq,jE,beq_eq_false_iff_ne,ne_eq]
    constructor
    · rintro ⟨hs,hsl,hd,hf,hf0,ht,hne⟩
      obtain ⟨hl,hc⟩:=(qoB h1 hf0).1 hf.symm
      have hfl:a.Bk ≠ (ps.length:Int)-1:=by intro e;rw [e,hlast] at hc;cases hc
      refine ⟨⟨⟨hf0,by omega⟩,⟨ht.1,by omega⟩⟩,hc,by omega,?_,hs,hd,hsl⟩
      cases hct:clkAt ps a.To with
      | false=>rfl
      | true =>
        have:=(qoB h1 ht.1).2 ⟨by omega,hct⟩
        omega
    · rintro ⟨⟨hf,ht⟩,hc,hlt,hct,hs,hd,hsl⟩
      have:=(qoB h1 hf.1).2 ⟨by omega,hc⟩
      refine ⟨hs,hsl,hd,this.symm,hf.1,⟨ht.1,by omega⟩,?_⟩
      intro e
      rw [e,hc] at hct
      cases hct
  | false =>
    simp only [cond_false,jc,qa4,beq_iff_eq]
    cases (a.Bf==1)
    · cases ((a.Bf==2) || (a.Bf==3))
      · simp
      · simp only [cond_true,cond_false,jc,beq_iff_eq]
        constructor
        · rintro ⟨⟨h1,h2,h3,h4⟩,h5,h6⟩
          exact ⟨⟨h4,by omega⟩,h5,h3,h6,h1,h2⟩
        · rintro ⟨⟨h4,h7⟩,h5,h3,h6,h1,h2⟩
          exact ⟨⟨h1,h2,h3,h4⟩,h5,h6⟩
    · simp only [cond_true,jc,qa4,jE,beq_iff_eq]
      constructor
      · rintro ⟨⟨h1,h2,h3,h4⟩,h5,h6⟩
        exact ⟨⟨h4,by omega⟩,h5,h3,h6,h1,h2⟩
      · rintro ⟨⟨h4,h7⟩,h5,h3,h6,h1,h2⟩
        exact ⟨⟨h1,h2,h3,h4⟩,h5,h6⟩
theorem qri {ps:List qar} {a:qP} (h:arcS ps a=true):1≤a.Bf∧a.Bf≤5:=by
  unfold arcS at h
  rw [jc] at h
  have h:=h.2
  cases h1:(a.Bf==1)
  · cases h2:((a.Bf==2) || (a.Bf==3))
    · cases h4:((a.Bf==4) || (a.Bf==5))
      · rw [h1,h2,h4] at h;cases h
      · simp at h4;omega
    · simp at h2;omega
  · simp at h1;omega
def sameArc (x y:qP):Bool:=(x.Bf==y.Bf)&&((x.Bk==y.Bk)&&(x.To==y.To))
def newArc (ar:List qP) (j:Nat):Bool:=allN (fun i=>!sameArc (gt ar i) (gt ar j)) j
theorem qtO {c:qB} (h:okL qmN c.Be) (ha:okL qnB c.Au) (hm:2≤c.Be.length):Ev (fun n=>qge n c) (allN (fun j=>arcI c.Be (gt c.Au j)&&newArc c.Au j) c.Au.length&&decide (c.Au.length≤8)):=by
  have hl:=ha.len
  have h1:∀ (ar:List qP) (y:qP),ar.length≤1048576→Ev (fun n=>qat n ar y) (ar.any fun x=>sameArc x y):=by
    intro ar y hl
    unfold qat
    refine Ev.bind (b:=ixL (fun x=>sameArc x y) ar) (qfn (fin:=(ar.length:Int)) (Lf:=qI ar y) (pf:=fun n x=>qe7 n x y) (fun x _=>?_)
      (fun n=>by simp only [qI,ql (jb _),cond_false])
      (fun n j x hx=>by
        have hj:=(List.getElem?_eq_some_iff.1 hx).1
        simp only [qI,qk hj,cond_true,qax hx,ja,wS j])
      (fun n=>by unfold qa2;congr 1;funext o;cases o<;>rfl)) (Ev.now (by rw [qmX]))
    unfold qe7 sameArc
    exact Ev.andP fun _=>Ev.andP fun _=>.done
  have hL:Ev (fun n=>qcj c n 0) (bif allN (fun j=>arcI c.Be (gt c.Au j)&&newArc c.Au j) c.Au.length then .nxt (c.Au.length:Int) else .ret false):=by
    refine qed ?_ (fun j hj X hX=>Ev.succ ?_)
    · exact Ev.succ (by simp only [qcj,ql (jb _),cond_false];exact .done)
    · simp only [qcj,qk hj,cond_true,qA hj,ja,quX (Nat.le_of_lt hj),wS j]
      refine Ev.chk (qwg h (qmA ha hj) hm) fun _=>Ev.chkT1 ?_ (fun _=>hX)
      refine (h1 _ _ (by simp;omega)).cast ?_
      rw [qwA (Nat.le_of_lt hj)];rfl
  unfold qge
  refine Ev.bind hL ?_
  cases allN (fun j=>arcI c.Be (gt c.Au j)&&newArc c.Au j) c.Au.length
  · exact .done
  · refine Ev.now ?_
    show some (decide ((c.Au.length:Int)≤((8:Nat):Int)))=some (true&&decide (c.Au.length≤8))
    rw [qm7,jw]
def hasB (ar:List qP) (k:Int):Bool:=ar.any fun a=>a.Bf==k
theorem qoN {c:qB} {k:Int} (hl:c.Au.length≤1048576):Ev (fun n=>qda n c k) (hasB c.Au k):=by
  unfold qda qa7
  exact Ev.last (Ev.bind (b:=ixL (fun x=>x.Bf==k) c.Au) (qfn (fin:=(c.Au.length:Int)) (Lf:=qZ c.Au k) (pf:=fun n x=>qjx n x k) (fun x _=>.done)
      (fun n=>by simp only [qZ,ql (jb _),cond_false])
      (fun n j x hx=>by
        have hj:=(List.getElem?_eq_some_iff.1 hx).1
        simp only [qZ,qk hj,cond_true,qax hx,ja,wS j])
      (fun n=>by unfold qbv;congr 1;funext o;cases o<;>rfl)) (Ev.now (by rw [qmX];rfl)))
def kindN (ar:List qP) (k:Nat) (j:Nat):Nat:=cntP (fun i=>(gt ar i).Bf==(k:Int)) j
theorem qre {ar:List qP} {k:Nat}:decide (((kindN ar k ar.length:Nat):Int) > 0)=hasB ar k:=by
  rw [show decide (((kindN ar k ar.length:Nat):Int) > 0)=decide (0<kindN ar k ar.length) by simp]
  unfold kindN hasB
  rw [qsy,qt1]
theorem qt5 {ar:List qP} {k:Nat}:(((kindN ar k ar.length:Nat):Int)==0) = !hasB ar k:=by
  rw [←qre,jh];simp
theorem qts {c:qB} (ha:okL qnB c.Au) (hk:∀ j,j<c.Au.length→1≤(gt c.Au j).Bf∧(gt c.Au j).Bf≤5):Ev (fun n=>qiT n c) (vecC (fun k=>kindN c.Au k c.Au.length) 6):=by
  have hl:=ha.len
  have hL:Ev (fun n=>qc1 c n (vecC (fun _=>0) 6) 0) (vecC (fun k=>kindN c.Au k c.Au.length) 6,(c.Au.length:Int)):=by
    refine loopF (Lf:=qc1 c) (S:=fun j=>vecC (fun k=>kindN c.Au k j) 6) (len:=c.Au.length) (fun n=>?_) (fun j hj X hX=>?_)
    · simp only [qc1,ql (jb _),cond_false]
    · obtain ⟨k1,k5⟩:=hk j hj
      have ek:(gt c.Au j).Bf=(((gt c.Au j).Bf.toNat:Nat):Int):=qem (by omega)
      have hc:kindN c.Au (gt c.Au j).Bf.toNat j≤j:=qfD
      simp only [qc1,qk hj,cond_true,qA hj,ja,wS j]
      rw [ek,qj5 (show (gt c.Au j).Bf.toNat<6 by omega)]
      simp only [ja]
      rw [qro (c:=fun k=>kindN c.Au k j) (by show kindN c.Au _ j<_;omega)]
      have:vecC (fun i=>kindN c.Au i j+(bif decide ((gt c.Au j).Bf.toNat=i) then 1 else 0)) 6=vecC (fun k=>kindN c.Au k (j+1)) 6:=by
        refine qkv (fun k _=>?_)
        show _=kindN c.Au k j+(bif (gt c.Au j).Bf==(k:Int) then 1 else 0)
        congr 2
        rw [jh];simp;omega
      rw [this]
      exact hX
  unfold qiT
  rw [show mkS 6 (0:Int)=some (vecC (fun _=>0) 6) from qne (m:=6) (by omega)]
  simp only [ja]
  exact Ev.bind hL .done
def kindB (c:qB):Bool :=
  bif c.Bf==1 then (((clkN c.Be c.Be.length:Nat):Int)==0)&&(((c.Br.length:Int)==((2 ^ (c.Be.length-1):Nat):Int))&&(c.Br.all fun x=>inI x 0 1))
  else bif c.Bf==2 then (((clkN c.Be c.Be.length:Nat):Int)==1)&&(((c.Br.length:Int)==0)&&(!hasB c.Au 1&&!(hasB c.Au 2==hasB c.Au 3)))
  else bif c.Bf==3 then (((clkN c.Be c.Be.length:Nat):Int)==1)&&(((c.Br.length:Int)==0)&&(hasB c.Au 1&&(hasB c.Au 2&&!hasB c.Au 3)))
  else false
theorem qrd {c:qB} (h:kindB c=true):clkN c.Be c.Be.length≤1:=by
  unfold kindB at h
  cases h1:(c.Bf==1)
  · cases h2:(c.Bf==2)
    · cases h3:(c.Bf==3)
      · rw [h1,h2,h3] at h;cases h
      · rw [h1,h2,h3] at h
        simp only [cond_true,cond_false,jc,beq_iff_eq] at h
        omega
    · rw [h1,h2] at h
      simp only [cond_true,cond_false,jc,beq_iff_eq] at h
      omega
  · rw [h1] at h
    simp only [cond_true,jc,beq_iff_eq] at h
    omega
theorem qsB {m:Nat} (h1:2≤m) (h2:m≤5):shlS 1 (W64 ((m:Int)-1))=some ((2 ^ (m-1):Nat):Int)∧shlS 1 (IntKind.wrap .u64 (W64 ((m:Int)-1)))=some ((2 ^ (m-1):Nat):Int):=by
  have:m=2∨m=3∨m=4∨m=5:=by omega
  rcases this with rfl|rfl|rfl|rfl<;>exact ⟨by decide,by decide⟩
theorem qte {c:qB} (hc:qm5 c) (hm:2≤c.Be.length) (hm5:c.Be.length≤5):Ev (fun n=>qfy n c) (kindB c):=by
  have hl:=hc.Be.len
  have hL:Ev (fun n=>qa3 c n 0 0) (((clkN c.Be c.Be.length:Nat):Int),(c.Be.length:Int)):=by
    refine loopF (Lf:=qa3 c) (S:=fun j=>((clkN c.Be j:Nat):Int)) (len:=c.Be.length) (fun n=>?_) (fun j hj X hX=>?_)
    · simp only [qa3,ql (jb _),cond_false]
    · have hn:clkN c.Be j≤j:=qfD
      simp only [qa3,qk hj,cond_true,qA hj,ja,wS j,qid (show clkN c.Be j<9223372036854775807 by omega)]
      have hck:clkN c.Be (j+1)=clkN c.Be j+(bif (gt c.Be j).Bq then 1 else 0):=rfl
      rw [hck] at hX
      cases hc:(gt c.Be j).Bq
      · rw [hc] at hX;exact Ev.ff rfl hX
      · rw [hc] at hX;exact Ev.tt rfl hX
  unfold qfy kindB
  refine Ev.bind hL ?_
  simp only [qd0,qcn,ja,(qsB hm hm5).1]
  have hal:=hc.Au.len
  refine Ev.iff (fun _=>?_) (fun _=>Ev.iff (fun _=>?_) (fun _=>Ev.iff (fun _=>?_) (fun _=>.done)))
  · exact Ev.andP fun _=>Ev.andP fun _=>Ev.last (qdR hc.Br.len)
  · exact Ev.andP fun _=>Ev.andP fun _=>Ev.bind (qoN hal) (Ev.andP fun _=>Ev.bind (qoN hal) (Ev.bind (qoN hal) .done))
  · exact Ev.andP fun _=>Ev.andP fun _=>Ev.and (qoN hal) fun _=>Ev.and (qoN hal) fun _=>Ev.bind (qoN hal) .done
def cellB (c:qB):Bool :=
  nameB c.Bb&&(pinsB c.Be&&((allN (fun j=>arcI c.Be (gt c.Au j)&&newArc c.Au j) c.Au.length&&decide (c.Au.length≤8))&&(inI c.Ca 0 100000&&(inI c.Bu 0 100000&&kindB c))))
theorem qvw {c:qB} (hc:qm5 c):Ev (fun n=>qkD n c) (cellB c):=by
  simp only [qkD,qoW hc.Bb,qcZ,ja]
  unfold cellB
  refine Ev.andP fun _=>Ev.and (qtZ hc.Be) fun hp=>?_
  obtain ⟨⟨hm,hm5⟩,_⟩:=qgv hp
  exact Ev.and (qtO hc.Be hc.Au hm) fun _=>Ev.andP fun _=>Ev.andP fun _=>Ev.last (qte hc hm hm5)
theorem qtQ {c:qB} (hc:qm5 c):Ev (fun n=>qkR n c) (cellB c):=by
  have hal:=hc.Au.len
  have htl:=hc.Br.len
  have e:cellB c=((pinsB c.Be&&(nameB c.Bb&&(decide (c.Au.length≤8)&&(inI c.Ca 0 100000&&inI c.Bu 0 100000))))&&(allN (fun j=>arcS c.Be (gt c.Au j)&&newArc c.Au j) c.Au.length&&kindB c)):=by
    unfold cellB
    cases hk:kindB c
    · simp
    · cases hp:pinsB c.Be
      · simp
      · rw [qhD (fun j _=>by rw [qv9 hp (qrd hk)])]
        cases nameB c.Bb<;>cases allN (fun j=>arcS c.Be (gt c.Au j)&&newArc c.Au j) c.Au.length<;>cases decide (c.Au.length≤8)<;>cases inI c.Ca 0 100000<;>cases inI c.Bu 0 100000<;>rfl
  rw [e]
  unfold qkR
  refine Ev.bind (quh hc.Be) ?_
  cases hp:pinsB c.Be
  · exact .done
  · obtain ⟨⟨hm,hm5⟩,_⟩:=qgv hp
    simp only [cond_true,jw,jW,cond_false]
    refine Ev.guardB ?_ (fun _=>?_)
    · simp only [qcE,ja,qcV]
      refine Ev.orB (ql2 hc.Bb) fun _=>?_
      rw [show decide ((c.Au.length:Int) > 8) = !decide (c.Au.length≤8) by rw [jh];simp;omega,qcV]
      exact Ev.orBP fun _=>Ev.orBP fun _=>.done
    · have hL2:∀ j,j<c.Au.length→Ev (fun n=>qde c (j:Int) (gt c.Au j) n 0) (bif newArc c.Au j then .nxt (j:Int) else .ret false):=by
        intro j hj
        refine qed ?_ (fun i hi X hX=>Ev.succ ?_)
        · exact Ev.succ (by simp only [qde,ql (jb _),cond_false];exact .done)
        · simp only [qde,qk hi,cond_true,qA (show i<c.Au.length by omega),ja,wS i]
          unfold sameArc
          cases ((gt c.Au i).Bf==(gt c.Au j).Bf)
          · exact hX
          · cases ((gt c.Au i).Bk==(gt c.Au j).Bk)
            · exact hX
            · cases ((gt c.Au i).To==(gt c.Au j).To)
              · exact hX
              · exact .done
      have hL1:Ev (fun n=>qe9 c n 0) (bif allN (fun j=>arcS c.Be (gt c.Au j)&&newArc c.Au j) c.Au.length then .nxt (c.Au.length:Int) else .ret false):=by
        refine qed ?_ (fun j hj X hX=>Ev.succ ?_)
        · exact Ev.succ (by simp only [qe9,ql (jb _),cond_false];exact .done)
        · simp only [qe9,qk hj,cond_true,qA hj,ja,wS j]
          refine Ev.chk (quE hc.Be (qmA hc.Au hj) hm) fun _=>Ev.bind (hL2 j hj) ?_
          cases newArc c.Au j
          · exact .done
          · exact hX
      have hL3:Ev (fun n=>qfi c n 0) (bif (c.Br.all fun x=>inI x 0 1) then .nxt (c.Br.length:Int) else .ret false) :=
        qoc (fun n=>by simp only [qfi,ql (jb _),cond_false]) (fun j hj X hX=>by
          simp only [qfi,qk hj,cond_true,qhZ hj,ja,qcE,wS j,qcV]
          exact Ev.okP1 fun _=>hX)
      refine Ev.bind hL1 ?_
      cases hA:allN (fun j=>arcS c.Be (gt c.Au j)&&newArc c.Au j) c.Au.length
      · exact .done
      · have hk:∀ j,j<c.Au.length→1≤(gt c.Au j).Bf∧(gt c.Au j).Bf≤5:=fun j hj=>by
          have:=qah.1 hA j hj
          rw [jc] at this
          exact qri this.1
        simp only [cond_true,jw]
        refine Ev.bind (qts hc.Au hk) ?_
        simp only [(qsB hm hm5).2,ja,
          show idx (vecC (fun k=>kindN c.Au k c.Au.length) 6) (1:Int)=some ((kindN c.Au 1 c.Au.length:Nat):Int) from qj5 (k:=1) (by omega),
          show idx (vecC (fun k=>kindN c.Au k c.Au.length) 6) (2:Int)=some ((kindN c.Au 2 c.Au.length:Nat):Int) from qj5 (k:=2) (by omega),
          show idx (vecC (fun k=>kindN c.Au k c.Au.length) 6) (3:Int)=some ((kindN c.Au 3 c.Au.length:Nat):Int) from qj5 (k:=3) (by omega),qre,qt5]
        unfold kindB
        refine Ev.iff (fun _=>?_) (fun _=>Ev.iff (fun _=>?_) (fun _=>Ev.iff (fun _=>?_) (fun _=>.done)))
        · refine Ev.bind hL3 ?_
          cases (c.Br.all fun x=>inI x 0 1)
          · exact Ev.now (by simp)
          · exact (Ev.andP (fun _=>.done)).cast (by rw [Bool.and_true])
        · refine (Ev.andP fun _=>Ev.andP fun _=>Ev.andP fun _=>.done).cast ?_
          cases (((clkN c.Be c.Be.length:Nat):Int)==1)<;>cases ((c.Br.length:Int)==0)<;>cases hasB c.Au ((1:Nat):Int)<;>cases hasB c.Au ((2:Nat):Int)<;>cases hasB c.Au ((3:Nat):Int)<;>rfl
        · refine (Ev.andP fun _=>Ev.andP fun _=>Ev.andP fun _=>Ev.andP fun _=>.done).cast ?_
          cases (((clkN c.Be c.Be.length:Nat):Int)==1)<;>cases ((c.Br.length:Int)==0)<;>cases hasB c.Au ((1:Nat):Int)<;>cases hasB c.Au ((2:Nat):Int)<;>cases hasB c.Au ((3:Nat):Int)<;>rfl
def libB (l:qq):Bool:=l.Aq.all cellB&&(decide (l.Aq.length≤8)&&namesB (l.Aq.map qB.Bb))
theorem qrX {l:qq} (h:qhz l):Ev (fun n=>qhN n l) (libB l):=by
  have hl:=h.Aq.len
  have hL:Ev (fun n=>qcy l n ([]:List ByteArray) 0) (bif allN (fun j=>cellB (gt l.Aq j)) l.Aq.length then .nxt (l.Aq.map qB.Bb,(l.Aq.length:Int)) else .ret false):=by
    refine loopN (Lf:=qcy l) (S:=fun j=>(l.Aq.take j).map qB.Bb) (fun j=>cellB (gt l.Aq j)) (fun n=>?_) (fun j hj hp X hX=>?_)
    · simp only [qcy,ql (jb _),cond_false,jB]
    · simp only [qcy,qk hj,cond_true,qA hj,ja,qlD hj hl,qfA (g:=qB.Bb) hj,wS j]
      exact Ev.chk1 (qvw (qmA h.Aq hj)) hX
  unfold qhN libB
  rw [qh4]
  refine Ev.bind hL ?_
  cases allN (fun j=>cellB (gt l.Aq j)) l.Aq.length
  · exact .done
  · simp only [cond_true,jw,show decide ((l.Aq.length:Int)≤8)=decide (l.Aq.length≤8) from qm7 (k:=8)]
    exact Ev.andP fun _=>Ev.last (qjf (qnf h.Aq (fun x hx=>hx.Bb)))
end Go.Fw


namespace Go.Fw
open Go
set_option maxRecDepth 100000
theorem qtP {c:qB} (h:cellB c=true):nameB c.Bb=true:=by
 unfold cellB at h;rw [jc] at h;exact h.1
theorem qiy {c:qB} (h:cellB c=true):pinsB c.Be=true:=by
 unfold cellB at h;simp only [jc] at h;exact h.2.1
theorem qqW {l:qq} (h:qhz l):Ev (fun n=>qin n l) (libB l):=by
 have hl:=h.Aq.len
 have hL2:∀ j,j<l.Aq.length→Ev (fun n=>qds l (j:Int) n 0) (bif allN (neB (l.Aq.map qB.Bb) j) j then .nxt (j:Int) else .ret false):=by
  intro j hj
  refine qed ?_ (fun i hi X hX=>Ev.succ ?_)
  ·exact Ev.succ (by simp only [qds,ql (jb _),cond_false];exact .done)
  ·simp only [qds,qk hi,cond_true,qA (show i<l.Aq.length by omega),qA hj,ja,qhi,wS i]
   unfold neB
   rw [qjX (g:=qB.Bb) (show i<l.Aq.length by omega),qjX (g:=qB.Bb) hj]
   exact Ev.chkP1 (fun _=>hX)
 have hL1:Ev (fun n=>qdq l n 0) (bif allN (fun j=>cellB (gt l.Aq j)&&allN (neB (l.Aq.map qB.Bb) j) j) l.Aq.length then .nxt (l.Aq.length:Int) else .ret false):=by
  refine qed ?_ (fun j hj X hX=>Ev.succ ?_)
  ·exact Ev.succ (by simp only [qdq,ql (jb _),cond_false];exact .done)
  ·simp only [qdq,qk hj,cond_true,qA hj,ja,wS j]
   refine Ev.chk (qtQ (qmA h.Aq hj)) fun _=>Ev.bind (hL2 j hj) ?_
   cases allN (neB (l.Aq.map qB.Bb) j) j
   ·exact .done
   ·exact hX
 have e:libB l=(allN (fun j=>cellB (gt l.Aq j)&&allN (neB (l.Aq.map qB.Bb) j) j) l.Aq.length&&decide (l.Aq.length≤8)):=by
  unfold libB namesB
  rw [qh4,jv,Bool.and_comm (decide (l.Aq.length≤8)),←Bool.and_assoc,←qlh]
  congr 1
  refine qhD (fun j hj=>?_)
  rw [qjX (g:=qB.Bb) hj]
  cases hc:cellB (gt l.Aq j)
  ·rfl
  ·rw [qtP hc];rfl
 rw [e]
 unfold qin
 refine Ev.bind hL1 ?_
 cases allN (fun j=>cellB (gt l.Aq j)&&allN (neB (l.Aq.map qB.Bb) j) j) l.Aq.length
 ·exact .done
 ·refine Ev.now ?_
  show some (decide ((l.Aq.length:Int)≤((8:Nat):Int)))=some (true&&decide (l.Aq.length≤8))
  rw [qm7,jw]
theorem qlt {c c':Nat→Nat} {m:Nat} {x:Int} (h0:0≤x) (h1:x<m) (hc:c x.toNat<9223372036854775807) (he:∀ k,k<m→c' k=c k+(bif x==(k:Int) then 1 else 0)) :
  idx (vecC c m) x=some (c x.toNat:Int)∧setS (vecC c m) x (W64 ((c x.toNat:Int)+1))=vecC c' m:=by
 have ex:x=(x.toNat:Int):=qem h0
 have e1:=qj5 (c:=c) (m:=m) (k:=x.toNat) (by omega)
 have e2:=qro (c:=c) (m:=m) (k:=x.toNat) hc
 rw [←ex] at e1 e2
 refine ⟨e1,e2.trans (qkv (fun k hk=>?_))⟩
 rw [he k hk]
 congr 2
 rw [jh];simp;omega
def netB (d:qe) (x:Int):Bool:=inI x 0 ((d.Am.length:Int)-1)
theorem qsL {n:Nat} {d:qe} {x:Int} (hl:d.Am.length≤1048576):qdr n d x=some (netB d x):=by
 simp only [qdr,qhw,ja,qcZ,qeP (show d.Am.length≤9223372036854775807 by omega)];rfl
theorem qrv {n:Nat} {d:qe} {x:Int} (hl:d.Am.length≤1048576):qas n x 0 (W64 ((d.Am.length:Int)-1))=some (netB d x):=by
 rw [qcE,qeP (show d.Am.length≤9223372036854775807 by omega)];rfl
def hasNamesB (d:qe):Bool:=(decide (d.Aa.length≤14)&&(decide (d.Am.length≤30)&&decide (d.Aj.length≤8)))&&(namesB (d.Aa.map qp.Bb)&&(namesB d.Am&&namesB (d.Aj.map qal.Bb)))
theorem qs2 {d:qe} (h:qjV d):Ev (fun n=>qeL n d) (hasNamesB d):=by
 have hli:=h.Aa.len
 have hlp:=h.Aj.len
 have hL1:Ev (fun n=>qba d n ([]:List ByteArray) 0) (d.Aa.map qp.Bb,(d.Aa.length:Int)):=by
  refine loopF (Lf:=qba d) (S:=fun j=>(d.Aa.take j).map qp.Bb) (len:=d.Aa.length) (fun n=>?_) (fun j hj X hX=>?_)
  ·simp only [qba,ql (jb _),cond_false,jB]
  ·simpa only [qba,qk hj,cond_true,qA hj,ja,qlD hj hli,qfA (g:=qp.Bb) hj,wS j] using hX
 have hL2:Ev (fun n=>qbd d n ([]:List ByteArray) 0) (d.Aj.map qal.Bb,(d.Aj.length:Int)):=by
  refine loopF (Lf:=qbd d) (S:=fun j=>(d.Aj.take j).map qal.Bb) (len:=d.Aj.length) (fun n=>?_) (fun j hj X hX=>?_)
  ·simp only [qbd,ql (jb _),cond_false,jB]
  ·simpa only [qbd,qk hj,cond_true,qA hj,ja,qlD hj hlp,qfA (g:=qal.Bb) hj,wS j] using hX
 unfold qeL hasNamesB
 refine Ev.bind hL1 (Ev.bind hL2 ?_)
 simp only [jv]
 rw [show decide ((d.Aa.length:Int)≤14)=decide (d.Aa.length≤14) from qm7 (k:=14),show decide ((d.Am.length:Int)≤30)=decide (d.Am.length≤30) from qm7 (k:=30),show decide ((d.Aj.length:Int)≤8)=decide (d.Aj.length≤8) from qm7 (k:=8)]
 rw [Bool.and_assoc,Bool.and_assoc]
 exact Ev.andP fun _=>Ev.andP fun _=>Ev.andP fun _=>Ev.and (qjf (qnf h.Aa (fun x hx=>hx.Bb))) fun _=>Ev.and (qjf h.Am) fun _=>Ev.last (qjf (qnf h.Aj (fun x hx=>hx.Bb)))
def instB (l:qq) (d:qe) (x:qp):Bool:=inI x.Bs 0 ((l.Aq.length:Int)-1)&&(((x.Am.length:Int)==((gt l.Aq x.Bs.toNat).Be.length:Int))&&x.Am.all (netB d))
theorem qra {d:qe} {l:qq} {x:qp} (hn:d.Am.length≤1048576) (hc:l.Aq.length≤1048576) (hx:x.Am.length≤1048576):Ev (fun n=>qdU n d l x) (instB l d x):=by
 simp only [qdU,qf6,ja,qcZ,qeP (show l.Aq.length≤9223372036854775807 by omega)]
 unfold instB
 refine Ev.andP fun hI=>?_
 rw [qa4] at hI
 rw [qdD hI.1 (by omega)]
 simp only [ja]
 refine Ev.andP fun _=>Ev.bind (b:=x.Am.any fun y=>!netB d y) ?_ (Ev.now (by rw [qon]))
 unfold qaL
 exact Ev.bind (b:=ixL (fun y=>!netB d y) x.Am) (qfn (fin:=(x.Am.length:Int)) (Lf:=qG x.Am d) (pf:=fun n y=>qdb n y d) (fun y _=>⟨0,fun n _=>by simp only [qdb,qsL hn,ja]⟩)
   (fun n=>by simp only [qG,ql (jb _),cond_false])
   (fun n j y hx=>by
    have hj:=(List.getElem?_eq_some_iff.1 hx).1
    simp only [qG,qk hj,cond_true,qax hx,ja,wS j])
   (fun n=>by unfold qaT;congr 1;funext o;cases o<;>rfl)) (Ev.now (by rw [qmX]))
def portB (d:qe) (p:qal):Bool:=inI p.Bv 1 2&&netB d p.Bx
theorem qyh {x:Int}:inI x 1 2=((x==1) || (x==2)):=by
 unfold inI;rw [jh];simp;omega
def lastN (x:qp):Int:=at0 x.Am (x.Am.length-1)
theorem qtr {x:qp} (h1:1≤x.Am.length) (h2:x.Am.length≤1048576):idx x.Am (W64 ((x.Am.length:Int)-1))=some (lastN x):=by
 rw [qeP (by omega),show ((x.Am.length:Int)-1)=((x.Am.length-1:Nat):Int) by omega,qae (by omega)];rfl
theorem qvd {d:qe} {x:qp} (h1:1≤x.Am.length) (h:x.Am.all (netB d)=true):0≤lastN x∧lastN x<d.Am.length:=by
 rw [qgn (d:=0),qah] at h
 have:=h (x.Am.length-1) (by omega)
 unfold netB at this
 rw [qa4] at this
 unfold lastN at0
 omega
theorem qqJ {l:qq} {d:qe} {x:qp} (hl:libB l=true) (h:instB l d x=true):1≤x.Am.length∧0≤lastN x∧lastN x<d.Am.length:=by
 unfold instB at h
 simp only [jc,qa4,beq_iff_eq] at h
 obtain ⟨h1,h2,h3⟩:=h
 unfold libB at hl
 simp only [jc] at hl
 have hc:=hl.1
 rw [qh4,qah] at hc
 have:=qgv (qiy (hc x.Bs.toNat (by omega)))
 have h4:1≤x.Am.length:=by omega
 exact ⟨h4,qvd h4 h3⟩
def drvI (d:qe) (k j:Nat):Nat:=cntP (fun i=>lastN (gt d.Aa i)==(k:Int)) j
def drvP (d:qe) (k j:Nat):Nat:=cntP (fun i=>((gt d.Aj i).Bv==1)&&((gt d.Aj i).Bx==(k:Int))) j
def drvB (d:qe):Bool:=allN (fun k=>((drvI d k d.Aa.length+drvP d k d.Aj.length:Nat):Int)==1) d.Am.length
def designB (l:qq) (d:qe):Bool:=(libB l&&hasNamesB d)&&(d.Aa.all (instB l d)&&(d.Aj.all (portB d)&&drvB d))
theorem qo8 {d:qe} {k j:Nat}:drvI d k (j+1)=drvI d k j+(bif lastN (gt d.Aa j)==(k:Int) then 1 else 0):=rfl
theorem qm8 {d:qe} {k j:Nat}:drvP d k (j+1)=drvP d k j+(bif ((gt d.Aj j).Bv==1)&&((gt d.Aj j).Bx==(k:Int)) then 1 else 0):=rfl
theorem qs9 {l:qq} {d:qe} (h:qhz l) (hd:qjV d):Ev (fun n=>qiU n l d) (designB l d):=by
 have hli:=hd.Aa.len
 have hlp:=hd.Aj.len
 have hln:=hd.Am.len
 have hlc:=h.Aq.len
 unfold qiU designB
 refine Ev.guardB (Ev.or (qrX h) fun _=>Ev.neg (qs2 hd)) fun hb=>?_
 rw [jc] at hb
 rw [qne (m:=d.Am.length) (by omega)]
 simp only [ja]
 have hL1:Ev (fun n=>qcX l d n (vecC (fun _=>0) d.Am.length) 0) (bif allN (fun j=>instB l d (gt d.Aa j)) d.Aa.length then .nxt (vecC (fun k=>drvI d k d.Aa.length) d.Am.length,(d.Aa.length:Int)) else .ret false):=by
  refine loopN (Lf:=qcX l d) (S:=fun j=>vecC (fun k=>drvI d k j) d.Am.length) (fun j=>instB l d (gt d.Aa j)) (fun n=>?_) (fun j hj hp X hX=>?_)
  ·simp only [qcX,ql (jb _),cond_false]
  ·simp only [qcX,qk hj,cond_true,qA hj,ja,wS j]
   have hxl:=(qmA hd.Aa hj).Am.len
   refine Ev.chk1 (qra hln hlc hxl) fun hi=>?_
   obtain ⟨h1,h2,h3⟩:=qqJ hb.1 hi
   have hc:drvI d (lastN (gt d.Aa j)).toNat j≤j:=qfD
   obtain ⟨e1,e2⟩:=qlt (c:=fun k=>drvI d k j) (c':=fun k=>drvI d k (j+1)) h2 h3 (by show drvI _ _ _<_;omega) (fun k _=>qo8)
   simp only [qtr h1 hxl,ja,e1,e2]
   exact hX hi
 have hL2:Ev (fun n=>qci d n (vecC (fun k=>drvI d k d.Aa.length) d.Am.length) 0) (bif allN (fun j=>portB d (gt d.Aj j)) d.Aj.length then .nxt (vecC (fun k=>drvI d k d.Aa.length+drvP d k d.Aj.length) d.Am.length,(d.Aj.length:Int)) else .ret false):=by
  refine loopN (Lf:=qci d) (S:=fun j=>vecC (fun k=>drvI d k d.Aa.length+drvP d k j) d.Am.length) (fun j=>portB d (gt d.Aj j)) (fun n=>?_) (fun j hj hp X hX=>?_)
  ·simp only [qci,ql (jb _),cond_false]
  ·simp only [qci,qk hj,cond_true,qA hj,ja,qsL hln,bne,wS j]
   refine Ev.chkT1 ?_ fun hi=>?_
   ·unfold portB
    rw [qyh]
    cases ((gt d.Aj j).Bv==1)<;>cases ((gt d.Aj j).Bv==2)<;>exact .done
   ·have hX:=hX hi
    unfold portB netB at hi
    simp only [jc,qa4] at hi
    have hc1:drvI d (gt d.Aj j).Bx.toNat d.Aa.length≤d.Aa.length:=qfD
    have hc2:drvP d (gt d.Aj j).Bx.toNat j≤j:=qfD
    cases h1:((gt d.Aj j).Bv==1)
    ·have:vecC (fun k=>drvI d k d.Aa.length+drvP d k (j+1)) d.Am.length=vecC (fun k=>drvI d k d.Aa.length+drvP d k j) d.Am.length:=by
      refine qkv (fun k _=>?_)
      rw [qm8,h1];rfl
     rw [this] at hX
     exact hX
    ·obtain ⟨e1,e2⟩:=qlt (c:=fun k=>drvI d k d.Aa.length+drvP d k j) (c':=fun k=>drvI d k d.Aa.length+drvP d k (j+1)) (x:=(gt d.Aj j).Bx) (m:=d.Am.length) hi.2.1 (by omega) (by show drvI _ _ _+drvP _ _ _<_;omega) (fun k _=>by rw [qm8,h1,jw];omega)
     simp only [cond_true,ja,e1,e2]
     exact hX
 rw [qh4,qh4]
 refine Ev.bind hL1 ?_
 cases allN (fun j=>instB l d (gt d.Aa j)) d.Aa.length
 ·exact .done
 ·refine Ev.bind hL2 ?_
  cases allN (fun j=>portB d (gt d.Aj j)) d.Aj.length
  ·exact .done
  ·simp only [cond_true,jw]
   unfold qbI
   refine Ev.bind (b:=(vecC (fun k=>drvI d k d.Aa.length+drvP d k d.Aj.length) d.Am.length).any fun x=>!(x==1)) (Ev.bind (b:=ixL (fun x=>!(x==1)) (vecC (fun k=>drvI d k d.Aa.length+drvP d k d.Aj.length) d.Am.length)) (qfn (fin:=(((vecC (fun k=>drvI d k d.Aa.length+drvP d k d.Aj.length) d.Am.length).length:Nat):Int)) (Lf:=qaj (vecC (fun k=>drvI d k d.Aa.length+drvP d k d.Aj.length) d.Am.length)) (pf:=fun n y=>qju n y) (fun y _=>.done)
    (fun n=>by simp only [qaj,ql (jb _),cond_false])
    (fun n j y hx=>by
     have hj:=(List.getElem?_eq_some_iff.1 hx).1
     have:j<d.Am.length:=by rw [qmF] at hj;exact hj
     simp only [qaj,qk hj,cond_true,qax hx,ja,wS j])
    (fun n=>by unfold qbY;congr 1;funext o;cases o<;>rfl)) (Ev.now (by rw [qmX]))) (Ev.now ?_)
   rw [qon,qgn (d:=0),qmF]
   unfold drvB
   congr 1
   exact qhD (fun k hk=>by
    have:=qti (c:=fun k=>drvI d k d.Aa.length+drvP d k d.Aj.length) hk
    unfold at0 at this
    rw [this])
theorem qsU {l:qq} {d:qe} (h:qhz l) (hd:qjV d):Ev (fun n=>qiM n l d) (d.Aa.all (instB l d)&&d.Aj.all (portB d)):=by
 have hli:=hd.Aa.len
 have hlp:=hd.Aj.len
 have hln:=hd.Am.len
 have hlc:=h.Aq.len
 have hL2:∀ x:qp,x.Am.length≤1048576→Ev (fun n=>qd3 d x n 0) (bif x.Am.all (netB d) then .nxt (x.Am.length:Int) else .ret false):=fun x hx =>
  qoc (fun n=>by simp only [qd3,ql (jb _),cond_false]) (fun j hj X hX=>by
   simp only [qd3,qk hj,cond_true,qhZ hj,ja,qrv hln,wS j,qcV]
   exact Ev.okP1 fun _=>hX)
 have hL1:Ev (fun n=>qd2 l d n 0) (bif allN (fun j=>instB l d (gt d.Aa j)) d.Aa.length then .nxt (d.Aa.length:Int) else .ret false):=by
  refine qed ?_ (fun j hj X hX=>Ev.succ ?_)
  ·exact Ev.succ (by simp only [qd2,ql (jb _),cond_false];exact .done)
  ·simp only [qd2,qk hj,cond_true,qA hj,ja,qcE,qeP (show l.Aq.length≤9223372036854775807 by omega),wS j,bne]
   have hxl:=(qmA hd.Aa hj).Am.len
   unfold instB
   rw [←Bool.and_assoc]
   refine Ev.chkT ?_ fun _=>Ev.bind (hL2 _ hxl) ?_
   ·simp only [qcV]
    refine Ev.orBP fun hI=>?_
    rw [qa4] at hI
    rw [qdD hI.1 (by omega)]
    exact .done
   ·cases (gt d.Aa j).Am.all (netB d)
    ·exact .done
    ·exact hX
 have hL3:Ev (fun n=>qd1 d n 0) (bif allN (fun j=>portB d (gt d.Aj j)) d.Aj.length then .nxt (d.Aj.length:Int) else .ret false):=by
  refine qed ?_ (fun j hj X hX=>Ev.succ ?_)
  ·exact Ev.succ (by simp only [qd1,ql (jb _),cond_false];exact .done)
  ·simp only [qd1,qk hj,cond_true,qA hj,ja,qrv hln,wS j]
   simp only [qcE,ja,qcV]
   unfold portB
   exact Ev.okP fun _=>Ev.okP1 fun _=>hX
 unfold qiM
 rw [qh4,qh4]
 refine Ev.bind hL1 ?_
 cases allN (fun j=>instB l d (gt d.Aa j)) d.Aa.length
 ·exact .done
 ·refine Ev.bind hL3 ?_
  cases allN (fun j=>portB d (gt d.Aj j)) d.Aj.length<;>exact .done
theorem qsp {l:qq} {d:qe} (h:qhz l) (hd:qjV d):Ev (fun n=>qiW n l d) (designB l d):=by
 have hli:=hd.Aa.len
 have hlp:=hd.Aj.len
 have hln:=hd.Am.len
 have hlc:=h.Aq.len
 have e:designB l d=((libB l&&(decide (d.Aa.length≤14)&&(decide (d.Am.length≤30)&&(decide (d.Aj.length≤8)&&(d.Aa.all (instB l d)&&d.Aj.all (portB d))))))&&((namesB (d.Aa.map qp.Bb)&&(namesB (d.Aj.map qal.Bb)&&namesB d.Am))&&drvB d)):=by
  unfold designB hasNamesB
  generalize libB l=a1
  generalize decide (d.Aa.length≤14)=a2
  generalize decide (d.Am.length≤30)=a3
  generalize decide (d.Aj.length≤8)=a4
  generalize d.Aa.all (instB l d)=a5
  generalize d.Aj.all (portB d)=a6
  generalize namesB (d.Aa.map qp.Bb)=a7
  generalize namesB (d.Aj.map qal.Bb)=a8
  generalize namesB d.Am=a9
  generalize drvB d=a10
  rw [jh]
  simp only [jc]
  constructor
  ·rintro ⟨⟨h1,⟨h2,h3,h4⟩,h7,h9,h8⟩,h5,h6,h10⟩
   exact ⟨⟨h1,h2,h3,h4,h5,h6⟩,⟨h7,h8,h9⟩,h10⟩
  ·rintro ⟨⟨h1,h2,h3,h4,h5,h6⟩,⟨h7,h8,h9⟩,h10⟩
   exact ⟨⟨h1,⟨h2,h3,h4⟩,h7,h9,h8⟩,h5,h6,h10⟩
 rw [e]
 unfold qiW
 refine Ev.guardB ?_ fun hb=>?_
 ·refine Ev.or (qqW h) fun _=>?_
  rw [show decide ((d.Aa.length:Int) > 14) = !decide (d.Aa.length≤14) by rw [jh];simp;omega,show decide ((d.Am.length:Int) > 30) = !decide (d.Am.length≤30) by rw [jh];simp;omega,show decide ((d.Aj.length:Int) > 8) = !decide (d.Aj.length≤8) by rw [jh];simp;omega]
  simp only [qcV]
  exact Ev.orBP fun _=>Ev.orBP fun _=>Ev.orBP fun _=>Ev.neg (qsU h hd)
 ·simp only [jc] at hb
  obtain ⟨hlib,_,_,_,hI,hP⟩:=hb
  rw [qh4,qah] at hI hP
  have hL1:Ev (fun n=>qc2 d n ([]:List ByteArray) 0) (d.Aa.map qp.Bb,(d.Aa.length:Int)):=by
   refine loopF (Lf:=qc2 d) (S:=fun j=>(d.Aa.take j).map qp.Bb) (len:=d.Aa.length) (fun n=>?_) (fun j hj X hX=>?_)
   ·simp only [qc2,ql (jb _),cond_false,jB]
   ·simpa only [qc2,qk hj,cond_true,qA hj,ja,qlD hj hli,qfA (g:=qp.Bb) hj,wS j] using hX
  have hL2:Ev (fun n=>qc8 d n ([]:List ByteArray) 0) (d.Aj.map qal.Bb,(d.Aj.length:Int)):=by
   refine loopF (Lf:=qc8 d) (S:=fun j=>(d.Aj.take j).map qal.Bb) (len:=d.Aj.length) (fun n=>?_) (fun j hj X hX=>?_)
   ·simp only [qc8,ql (jb _),cond_false,jB]
   ·simpa only [qc8,qk hj,cond_true,qA hj,ja,qlD hj hlp,qfA (g:=qal.Bb) hj,wS j] using hX
  have hL3:Ev (fun n=>qc3 d n (vecC (fun _=>0) d.Am.length) 0) (vecC (fun k=>drvI d k d.Aa.length) d.Am.length,(d.Aa.length:Int)):=by
   refine loopF (Lf:=qc3 d) (S:=fun j=>vecC (fun k=>drvI d k j) d.Am.length) (len:=d.Aa.length) (fun n=>?_) (fun j hj X hX=>?_)
   ·simp only [qc3,ql (jb _),cond_false]
   ·have hxl:=(qmA hd.Aa hj).Am.len
    obtain ⟨h1,h2,h3⟩:=qqJ hlib (hI j hj)
    have hc:drvI d (lastN (gt d.Aa j)).toNat j≤j:=qfD
    obtain ⟨e1,e2⟩:=qlt (c:=fun k=>drvI d k j) (c':=fun k=>drvI d k (j+1)) h2 h3 (by show drvI _ _ _<_;omega) (fun k _=>qo8)
    simpa only [qc3,qk hj,cond_true,qA hj,ja,wS j,qtr h1 hxl,e1,e2] using hX
  have hL4:Ev (fun n=>qck d n (vecC (fun k=>drvI d k d.Aa.length) d.Am.length) 0) (vecC (fun k=>drvI d k d.Aa.length+drvP d k d.Aj.length) d.Am.length,(d.Aj.length:Int)):=by
   refine loopF (Lf:=qck d) (S:=fun j=>vecC (fun k=>drvI d k d.Aa.length+drvP d k j) d.Am.length) (len:=d.Aj.length) (fun n=>?_) (fun j hj X hX=>?_)
   ·simp only [qck,ql (jb _),cond_false]
   ·have hi:=hP j hj
    unfold portB netB at hi
    simp only [jc,qa4] at hi
    have hc1:drvI d (gt d.Aj j).Bx.toNat d.Aa.length≤d.Aa.length:=qfD
    have hc2:drvP d (gt d.Aj j).Bx.toNat j≤j:=qfD
    simp only [qck,qk hj,cond_true,qA hj,ja,wS j]
    cases h1:((gt d.Aj j).Bv==1)
    ·have:vecC (fun k=>drvI d k d.Aa.length+drvP d k (j+1)) d.Am.length=vecC (fun k=>drvI d k d.Aa.length+drvP d k j) d.Am.length:=by
      refine qkv (fun k _=>?_)
      rw [qm8,h1];rfl
     rw [this] at hX
     exact hX
    ·obtain ⟨e1,e2⟩:=qlt (c:=fun k=>drvI d k d.Aa.length+drvP d k j) (c':=fun k=>drvI d k d.Aa.length+drvP d k (j+1)) (x:=(gt d.Aj j).Bx) (m:=d.Am.length) hi.2.1 (by omega) (by show drvI _ _ _+drvP _ _ _<_;omega) (fun k _=>by rw [qm8,h1,jw];omega)
     simp only [cond_true,ja,e1,e2]
     exact hX
  have hL5:Ev (fun n=>qd8 (vecC (fun _=>0) d.Am.length) (vecC (fun k=>drvI d k d.Aa.length+drvP d k d.Aj.length) d.Am.length) n 0) (bif drvB d then .nxt (d.Am.length:Int) else .ret false):=by
   refine qed ?_ (fun j hj X hX=>Ev.succ ?_)
   ·exact Ev.succ (by simp only [qd8,qmF,ql (jb _),cond_false];exact .done)
   ·simp only [qd8,qmF,qk hj,cond_true,qj5 hj,ja,bne,qcV,wS j]
    exact Ev.okP1 fun _=>hX
  refine Ev.bind hL1 (Ev.bind hL2 ?_)
  refine Ev.guardB (Ev.or (qmS (qnf hd.Aa (fun x hx=>hx.Bb))) fun _=>Ev.or (qmS (qnf hd.Aj (fun x hx=>hx.Bb))) fun _=>Ev.neg (qmS hd.Am)) fun _=>?_
  rw [qne (m:=d.Am.length) (by omega)]
  simp only [ja]
  refine Ev.bind hL3 (Ev.bind hL4 (Ev.bind hL5 ?_))
  cases drvB d<;>exact .done
end Go.Fw


namespace Go.Fw
open Go
set_option maxRecDepth 100000
theorem qw1 {m k:Nat}:decide ((m:Int)<(k:Int)) = !decide (k≤m):=by rw [jh];simp
theorem qxs {m k:Nat}:decide ((m:Int) > (k:Int)) = !decide (m≤k):=by rw [jh];simp
def treeB (w:qQ) (j:Nat):Bool:=bif decide (j=0) then (at0 w.Ak j==-1)&&(at0 w.Bw j==0) else inI (at0 w.Ak j) 0 ((j:Int)-1)
def wireB (w:qQ) (s:Int):Bool :=
 lenB w.Ak 1 8&&(((w.Bw.length:Int)==(w.Ak.length:Int))&&(((w.Bt.length:Int)==(w.Ak.length:Int))&&(allN (treeB w) w.Ak.length &&
  ((w.Bw.all fun x=>inI x 0 1000)&&((w.Bt.all fun x=>inI x 0 500)&&(((w.Bl.length:Int)==s)&&(w.Bl.all fun x=>inI x 0 ((w.Ak.length:Int)-1))))))))
theorem qvi {w:qQ} (hl:w.Ak.length≤1048576) (hr:((w.Bw.length:Int)==(w.Ak.length:Int))=true):Ev (fun n=>qgN n w) (allN (treeB w) w.Ak.length):=by
 rw [beq_iff_eq] at hr
 have hL:Ev (fun n=>qa6 w n 0) (bif allN (treeB w) w.Ak.length then .nxt (w.Ak.length:Int) else .ret false):=by
  refine qed ?_ (fun j hj X hX=>Ev.succ ?_)
  ·exact Ev.succ (by simp only [qa6,ql (jb _),cond_false];exact .done)
  ·simp only [qa6,qk hj,cond_true,qae hj,ja,qcZ,wS j,bne,qcV]
   unfold treeB
   by_cases h0:j=0
   ·subst h0
    rw [show idx w.Bw (0:Int)=some (at0 w.Bw 0) from qae (j:=0) (by omega)]
    simp only [ja]
    refine Ev.tt (by simp) (Ev.okP fun _=>Ev.okP1 fun _=>Ev.ff (by simp) hX)
   ·have e1:decide (j=0)=false:=by simp;omega
    have e2:((j:Int)==0)=false:=by simp;omega
    have e3:decide ((j:Int) > 0)=true:=by simp;omega
    rw [e1,e2,e3,qeP (show j≤9223372036854775807 by omega)]
    simp only [cond_false,cond_true]
    exact Ev.okP1 fun _=>hX
 unfold qgN
 refine Ev.bind hL ?_
 cases allN (treeB w) w.Ak.length<;>exact .done
theorem qu8 {w:qQ} {s:Int} (h:qnU w):Ev (fun n=>qk4 n w s) (wireB w s):=by
 have hl:=h.Ak.len
 simp only [qk4,qbm,ja,qcZ,qeP (show w.Ak.length≤9223372036854775807 by omega)]
 unfold wireB
 rw [show inI (w.Ak.length:Int) 1 8=lenB w.Ak 1 8 from qsr (lo:=1) (hi:=8)]
 exact Ev.andP fun _=>Ev.andP fun hr=>Ev.andP fun _=>Ev.and (qvi hl hr) fun _=>Ev.and (qdR h.Bw.len) fun _=>Ev.and (qdR h.Bt.len) fun _=>Ev.andP fun _=>Ev.last (qdR h.Bl.len)
theorem qtw {w:qQ} {s:Int} (h:qnU w):Ev (fun n=>qkQ n w s) (wireB w s):=by
 have hl:=h.Ak.len
 have hsl:=h.Bl.len
 have e:wireB w s=((decide (1≤w.Ak.length)&&(decide (w.Ak.length≤8)&&(((w.Bw.length:Int)==(w.Ak.length:Int))&&(((w.Bt.length:Int)==(w.Ak.length:Int))&&((w.Bl.length:Int)==s)))))&&(allN (fun j=>(inI (at0 w.Bt j) 0 500&&inI (at0 w.Bw j) 0 1000)&&treeB w j) w.Ak.length&&(w.Bl.all fun x=>inI x 0 ((w.Ak.length:Int)-1)))):=by
  unfold wireB lenB
  cases h1:((w.Bw.length:Int)==(w.Ak.length:Int))
  ·simp
  ·cases h2:((w.Bt.length:Int)==(w.Ak.length:Int))
   ·simp
   ·rw [beq_iff_eq] at h1 h2
    rw [qlh,qlh]
    rw [qgn (p:=fun x=>inI x 0 1000) (d:=0),qgn (p:=fun x=>inI x 0 500) (d:=0),show w.Bw.length=w.Ak.length by omega,show w.Bt.length=w.Ak.length by omega]
    show _=(_&&((allN (fun j=>inI (w.Bt.getD j 0) 0 500) _&&allN (fun j=>inI (w.Bw.getD j 0) 0 1000) _&&_)&&_))
    generalize allN (fun j=>inI (w.Bt.getD j 0) 0 500) w.Ak.length=a1
    generalize allN (fun j=>inI (w.Bw.getD j 0) 0 1000) w.Ak.length=a2
    generalize allN (fun j=>treeB w j) w.Ak.length=a3
    generalize ((w.Bl.length:Int)==s)=a4
    generalize decide (1≤w.Ak.length)=a5
    generalize decide (w.Ak.length≤8)=a6
    generalize (w.Bl.all fun x=>inI x 0 ((w.Ak.length:Int)-1))=a7
    cases a1<;>cases a2<;>cases a3<;>cases a4<;>cases a5<;>cases a6<;>rfl
 rw [e]
 unfold qkQ
 refine Ev.guardB ?_ fun hb=>?_
 ·rw [show decide ((w.Ak.length:Int)<1) = !decide (1≤w.Ak.length) from qw1 (k:=1),show decide ((w.Ak.length:Int) > 8) = !decide (w.Ak.length≤8) from qxs (k:=8)]
  simp only [bne,qcV]
  exact Ev.orBP fun _=>Ev.orBP fun _=>Ev.orBP fun _=>Ev.orBP fun _=>.done
 ·simp only [jc,beq_iff_eq] at hb
  have hL1:Ev (fun n=>qcA w n 0) (bif allN (fun j=>(inI (at0 w.Bt j) 0 500&&inI (at0 w.Bw j) 0 1000)&&treeB w j) w.Ak.length then .nxt (w.Ak.length:Int) else .ret false):=by
   refine qed ?_ (fun j hj X hX=>Ev.succ ?_)
   ·exact Ev.succ (by simp only [qcA,ql (jb _),cond_false];exact .done)
   ·simp only [qcA,qk hj,cond_true,qae hj,qae (show j<w.Bt.length by omega),qae (show j<w.Bw.length by omega),ja,qcE,wS j,bne,qcV]
    refine Ev.chkT (Ev.orBP fun _=>.done) fun _=>?_
    unfold treeB
    by_cases h0:j=0
    ·subst h0
     refine Ev.tt (by simp) (Ev.okP fun _=>Ev.okP1 fun _=>Ev.ff (by simp) hX)
    ·have e1:decide (j=0)=false:=by simp;omega
     have e2:((j:Int)==0)=false:=by simp;omega
     have e3:decide ((j:Int) > 0)=true:=by simp;omega
     rw [e1,e2,e3,qeP (show j≤9223372036854775807 by omega)]
     simp only [cond_false,cond_true]
     exact Ev.okP1 fun _=>hX
  have hL2:Ev (fun n=>qfe w n 0) (bif (w.Bl.all fun x=>inI x 0 ((w.Ak.length:Int)-1)) then .nxt (w.Bl.length:Int) else .ret false) :=
   qoc (fun n=>by simp only [qfe,ql (jb _),cond_false]) (fun j hj X hX=>by
    simp only [qfe,qk hj,cond_true,qhZ hj,ja,qcE,qeP (show w.Ak.length≤9223372036854775807 by omega),wS j,qcV]
    exact Ev.okP1 fun _=>hX)
  refine Ev.bind hL1 ?_
  cases allN (fun j=>(inI (at0 w.Bt j) 0 500&&inI (at0 w.Bw j) 0 1000)&&treeB w j) w.Ak.length
  ·exact .done
  ·refine Ev.bind hL2 ?_
   cases (w.Bl.all fun x=>inI x 0 ((w.Ak.length:Int)-1))<;>exact .done
instance:Inhabited Tplace:=⟨⟨0,0,0,false⟩⟩
instance:Inhabited Tl05Place:=⟨⟨0,0,0,false⟩⟩
def toSp (p:Tplace):Tl05Place:=⟨p.instance_,p.pin,p.net,p.drives⟩
def plX (i:Nat) (x:qp) (j:Nat):List Tplace:=(List.range j).map fun (k:Nat)=>⟨(i:Int),(k:Int),at0 x.Am k,decide (k+1=x.Am.length)⟩
def plI (d:qe) (j:Nat):List Tplace:=(List.range j).flatMap fun (i:Nat)=>plX i (gt d.Aa i) (gt d.Aa i).Am.length
def plP (d:qe) (j:Nat):List Tplace:=(List.range j).map fun (i:Nat)=>⟨-1,(i:Int),(gt d.Aj i).Bx,(gt d.Aj i).Bv==1⟩
def places (d:qe):List Tplace:=plI d d.Aa.length++plP d d.Aj.length
theorem qs0 {i:Nat} {x:qp} {j:Nat}:plX i x (j+1)=plX i x j++[⟨(i:Int),(j:Int),at0 x.Am j,decide (j+1=x.Am.length)⟩]:=by
 unfold plX;rw [List.range_succ,jP];rfl
theorem qmT {d:qe} {j:Nat}:plI d (j+1)=plI d j++plX j (gt d.Aa j) (gt d.Aa j).Am.length:=by
 unfold plI;rw [List.range_succ,List.flatMap_append];simp
theorem qtk {d:qe} {j:Nat}:plP d (j+1)=plP d j++[⟨-1,(j:Int),(gt d.Aj j).Bx,(gt d.Aj j).Bv==1⟩]:=by
 unfold plP;rw [List.range_succ,jP];rfl
theorem qpU {i:Nat} {x:qp} {j:Nat}:(plX i x j).length=j:=by simp [plX]
theorem qpX {d:qe} {j:Nat}:(plP d j).length=j:=by simp [plP]
structure smallD (d:qe):Prop where
 ni:d.Aa.length≤14
 nn:d.Am.length≤30
 np:d.Aj.length≤8
 nx:∀ i,i<d.Aa.length→2≤(gt d.Aa i).Am.length∧(gt d.Aa i).Am.length≤5
theorem qX {l:qq} {d:qe} (h:designB l d=true):smallD d:=by
 unfold designB hasNamesB libB at h
 simp only [jc,decide_eq_true_eq] at h
 obtain ⟨⟨⟨hc,_⟩,⟨h1,h2,h3⟩,_⟩,hI,_⟩:=h
 refine ⟨h1,h2,h3,fun i hi=>?_⟩
 rw [qh4,qah] at hI hc
 have:=hI i hi
 unfold instB at this
 simp only [jc,qa4,beq_iff_eq] at this
 have h5:=qgv (qiy (hc (gt d.Aa i).Bs.toNat (by omega)))
 omega
theorem qom {d:qe} (h:smallD d) {j:Nat} (hj:j≤d.Aa.length):(plI d j).length≤5*j:=by
 induction j with
 | zero=>exact jb _
 | succ j ih =>
  rw [qmT,je,qpU]
  have:=ih (by omega)
  have:=h.nx j (by omega)
  omega
theorem qa0 {d:qe} (h:smallD d):(places d).length≤78:=by
 unfold places
 rw [je,qpX]
 have:=qom h (jb _)
 have:=h.ni
 have:=h.np
 omega
theorem qm3 {d:qe} (h:smallD d):Ev (fun n=>qcf n d) (places d):=by
 have h1:=h.ni
 have h2:=h.np
 have hL2:∀ i,i<d.Aa.length→∀ pre:List Tplace,pre.length≤100→Ev (fun n=>qbB (i:Int) (gt d.Aa i) n pre 0) (pre++plX i (gt d.Aa i) (gt d.Aa i).Am.length,((gt d.Aa i).Am.length:Int)):=by
  intro i hi pre hp
  have h5:=h.nx i hi
  have:=loopF (Lf:=qbB (i:Int) (gt d.Aa i)) (S:=fun j=>pre++plX i (gt d.Aa i) j) (len:=(gt d.Aa i).Am.length) (fin:=(pre++plX i (gt d.Aa i) (gt d.Aa i).Am.length,((gt d.Aa i).Am.length:Int))) (fun n=>by
    simp only [qbB,ql (jb _),cond_false])
   (fun j hj X hX=>by
    have hc:(pre++plX i (gt d.Aa i) j).length+[(⟨(i:Int),(j:Int),at0 (gt d.Aa i).Am j,decide (j+1=(gt d.Aa i).Am.length)⟩:Tplace)].length≤2147483648:=by
     rw [je,qpU];simp;omega
    simp only [qbB,qk hj,cond_true,qae hj,ja,lastE hj (show (gt d.Aa i).Am.length≤1048576 by omega),qcS hc,jp,←qs0,wS j]
    exact hX)
  simpa [plX] using this
 have hL1:Ev (fun n=>qbD d n ([]:List Tplace) 0) (plI d d.Aa.length,(d.Aa.length:Int)):=by
  refine loopF (Lf:=qbD d) (S:=fun j=>plI d j) (len:=d.Aa.length) (fun n=>?_) (fun j hj X hX=>?_)
  ·simp only [qbD,ql (jb _),cond_false]
  ·simp only [qbD,qk hj,cond_true,qA hj,ja,wS j]
   refine Ev.bind (hL2 j hj _ (by have:=qom h (Nat.le_of_lt hj);omega)) ?_
   rw [←qmT]
   exact hX
 have hL3:Ev (fun n=>qbG d n (plI d d.Aa.length) 0) (places d,(d.Aj.length:Int)):=by
  have:=loopF (Lf:=qbG d) (S:=fun j=>plI d d.Aa.length++plP d j) (len:=d.Aj.length) (fin:=(places d,(d.Aj.length:Int))) (fun n=>by
    simp only [qbG,ql (jb _),cond_false];rfl)
   (fun j hj X hX=>by
    have hc:(plI d d.Aa.length++plP d j).length+[(⟨-1,(j:Int),(gt d.Aj j).Bx,(gt d.Aj j).Bv==1⟩:Tplace)].length≤2147483648:=by
     rw [je,qpX];have:=qom h (jb _);simp;omega
    simp only [qbG,qk hj,cond_true,qA hj,ja,qcS hc,jp,←qtk,wS j]
    exact hX)
  simpa [plP] using this
 unfold qcf
 exact Ev.bind hL1 (Ev.bind hL3 .done)
theorem qhx {d:qe} (h:smallD d):Ev (fun n=>qb9 n d) ((places d).map toSp):=by
 have h1:=h.ni
 have h2:=h.np
 have hL2:∀ i,i<d.Aa.length→∀ pre:List Tplace,pre.length≤100→Ev (fun n=>qcC (i:Int) (gt d.Aa i) n (pre.map toSp) 0) ((pre++plX i (gt d.Aa i) (gt d.Aa i).Am.length).map toSp,((gt d.Aa i).Am.length:Int)):=by
  intro i hi pre hp
  have h5:=h.nx i hi
  have:=loopF (Lf:=qcC (i:Int) (gt d.Aa i)) (S:=fun j=>(pre++plX i (gt d.Aa i) j).map toSp) (len:=(gt d.Aa i).Am.length) (fin:=((pre++plX i (gt d.Aa i) (gt d.Aa i).Am.length).map toSp,((gt d.Aa i).Am.length:Int))) (fun n=>by
    simp only [qcC,ql (jb _),cond_false])
   (fun j hj X hX=>by
    have hc:((pre++plX i (gt d.Aa i) j).map toSp).length+[(⟨(i:Int),(j:Int),at0 (gt d.Aa i).Am j,decide (j+1=(gt d.Aa i).Am.length)⟩:Tl05Place)].length≤2147483648:=by
     rw [jv,je,qpU];simp;omega
    simp only [qcC,qk hj,cond_true,qae hj,ja,lastE hj (show (gt d.Aa i).Am.length≤1048576 by omega),qcS hc,wS j]
    rw [qs0,←jp,jP] at hX
    exact hX)
  simpa [plX] using this
 have hL1:Ev (fun n=>qcs d n ([]:List Tl05Place) 0) ((plI d d.Aa.length).map toSp,(d.Aa.length:Int)):=by
  refine loopF (Lf:=qcs d) (S:=fun j=>(plI d j).map toSp) (len:=d.Aa.length) (fun n=>?_) (fun j hj X hX=>?_)
  ·simp only [qcs,ql (jb _),cond_false]
  ·simp only [qcs,qk hj,cond_true,qA hj,ja,wS j]
   refine Ev.bind (hL2 j hj _ (by have:=qom h (Nat.le_of_lt hj);omega)) ?_
   rw [←qmT]
   exact hX
 have hL3:Ev (fun n=>qcu d n ((plI d d.Aa.length).map toSp) 0) ((places d).map toSp,(d.Aj.length:Int)):=by
  have:=loopF (Lf:=qcu d) (S:=fun j=>(plI d d.Aa.length++plP d j).map toSp) (len:=d.Aj.length) (fin:=((places d).map toSp,(d.Aj.length:Int))) (fun n=>by
    simp only [qcu,ql (jb _),cond_false];rfl)
   (fun j hj X hX=>by
    have hc:((plI d d.Aa.length++plP d j).map toSp).length+[(⟨-1,(j:Int),(gt d.Aj j).Bx,(gt d.Aj j).Bv==1⟩:Tl05Place)].length≤2147483648:=by
     rw [jv,je,qpX];have:=qom h (jb _);simp;omega
    simp only [qcu,qk hj,cond_true,qA hj,ja,qcS hc,wS j]
    rw [qtk,←jp,jP] at hX
    exact hX)
  simpa [plP] using this
 unfold qb9
 exact Ev.bind hL1 (Ev.bind hL3 .done)
def snkQ (d:qe) (k:Int) (i:Nat):Bool:=((gt (places d) i).net==k)&&!(gt (places d) i).drives
def sinksL (d:qe) (k:Int) (j:Nat):List Int:=((List.range j).filter (snkQ d k)).map fun (i:Nat)=>(i:Int)
def snkN (d:qe) (k:Int):Nat:=cntP (snkQ d k) (places d).length
theorem qji {d:qe} {k:Int} {j:Nat}:sinksL d k (j+1)=sinksL d k j++(bif snkQ d k j then [(j:Int)] else []):=by
 unfold sinksL
 rw [List.range_succ,List.filter_append,jP]
 congr 1
 cases h:snkQ d k j<;>simp [h]
theorem qiz {d:qe} {k:Int} {j:Nat}:(sinksL d k j).length=cntP (snkQ d k) j:=by
 induction j with
 | zero=>rfl
 | succ j ih =>
  rw [qji,je,ih]
  show _=cntP (snkQ d k) j+_
  congr 1
  cases snkQ d k j<;>rfl
theorem qoz {α β:Type} [Inhabited α] [Inhabited β] {xs:List α} {g:α→β} {j:Nat} (h:j<xs.length):gt (xs.map g) j=g (gt xs j):=by
 rw [qe4 (by simpa using h),qe4 h];simp
theorem qmx {d:qe} {k:Int} (h:smallD d):Ev (fun n=>qf3 n d k) (sinksL d k (places d).length):=by
 have hl:=qa0 h
 have hL:Ev (fun n=>qcm k ((places d).map toSp) n ([]:List Int) 0) (sinksL d k (places d).length,((places d).length:Int)):=by
  refine loopF (Lf:=qcm k ((places d).map toSp)) (S:=fun j=>sinksL d k j) (len:=(places d).length) (fun n=>?_) (fun j hj X hX=>?_)
  ·simp only [qcm,jv,ql (jb _),cond_false]
  ·have hj':j<((places d).map toSp).length:=by simpa using hj
   have hc:(sinksL d k j).length+[(j:Int)].length≤2147483648:=by
    rw [qiz]
    have:cntP (snkQ d k) j≤j:=qfD
    simp;omega
   simp only [qcm,qk hj',cond_true,qA hj',qoz hj,ja,wS j]
   rw [show ∀ p:Tplace,(toSp p).net=p.net from fun _=>rfl,show ∀ p:Tplace,(toSp p).drives=p.drives from fun _=>rfl]
   refine Ev.bind (b:=snkQ d k j) (Ev.andP fun _=>.done) ?_
   rw [qji] at hX
   cases hq:snkQ d k j
   ·rw [hq] at hX
    simp only [cond_false,List.append_nil] at hX ⊢
    exact hX
   ·rw [hq] at hX
    simp only [cond_true,qcS hc,ja] at hX ⊢
    exact hX
 unfold qf3
 exact Ev.bind (qhx h) (Ev.bind hL .done)
theorem qlM {l:qq} {d:qe} (h:designB l d=true) {i:Nat} (hi:i<(places d).length):0≤(gt (places d) i).net∧(gt (places d) i).net<d.Am.length:=by
 unfold designB at h
 simp only [jc] at h
 obtain ⟨_,hI,hP,_⟩:=h
 rw [qh4,qah] at hI hP
 have hm:gt (places d) i ∈ places d:=by rw [qe4 hi];exact jo hi
 generalize gt (places d) i=p at hm
 unfold places at hm
 rcases List.mem_append.1 hm with hm|hm
 ·unfold plI at hm
  obtain ⟨i,hi,hm⟩:=List.mem_flatMap.1 hm
  unfold plX at hm
  obtain ⟨k,hk,rfl⟩:=List.mem_map.1 hm
  have:=hI i (List.mem_range.1 hi)
  unfold instB at this
  simp only [jc] at this
  have h3:=this.2.2
  rw [qgn (d:=0),qah] at h3
  have h4:=h3 k (List.mem_range.1 hk)
  unfold netB at h4
  rw [qa4] at h4
  show 0≤at0 _ _∧at0 _ _<_
  unfold at0
  omega
 ·unfold plP at hm
  obtain ⟨i,hi,rfl⟩:=List.mem_map.1 hm
  have:=hP i (List.mem_range.1 hi)
  unfold portB netB at this
  simp only [jc,qa4] at this
  show 0≤(gt d.Aj i).Bx∧(gt d.Aj i).Bx<_
  omega
def blockB (b:qf):Bool:=(designB b.Ay b.Ab&&((b.Ac.length:Int)==(b.Ab.Am.length:Int)))&&allN (fun j=>wireB (gt b.Ac j) (snkN b.Ab (j:Int))) b.Ac.length
theorem qtM {b:qf} (h:qlz b):Ev (fun n=>qis n b) (blockB b):=by
 have hwl:=h.Ac.len
 unfold qis blockB
 refine Ev.guardB (Ev.or (qs9 h.Ay h.Ab) fun _=>.done) fun hb=>?_
 rw [jc,beq_iff_eq] at hb
 obtain ⟨hd,hw⟩:=hb
 have hs:=qX hd
 have hl:=qa0 hs
 have hn:=hs.nn
 rw [qne (m:=b.Ac.length) (by omega)]
 simp only [ja]
 have hL1:Ev (fun n=>qcM (places b.Ab) n (vecC (fun _=>0) b.Ac.length) 0) (vecC (fun k=>snkN b.Ab (k:Int)) b.Ac.length,((places b.Ab).length:Int)):=by
  refine loopF (Lf:=qcM (places b.Ab)) (S:=fun j=>vecC (fun k=>cntP (snkQ b.Ab (k:Int)) j) b.Ac.length) (len:=(places b.Ab).length) (fun n=>?_) (fun j hj X hX=>?_)
  ·simp only [qcM,ql (jb _),cond_false];rfl
  ·simp only [qcM,qk hj,cond_true,qA hj,ja,wS j]
   obtain ⟨n0,n1⟩:=qlM hd hj
   cases h1:(gt (places b.Ab) j).drives
   ·have hc:cntP (snkQ b.Ab (((gt (places b.Ab) j).net.toNat:Nat):Int)) j≤j:=qfD
    obtain ⟨e1,e2⟩:=qlt (c:=fun k=>cntP (snkQ b.Ab (k:Int)) j) (c':=fun k=>cntP (snkQ b.Ab (k:Int)) (j+1)) (x:=(gt (places b.Ab) j).net) (m:=b.Ac.length) n0 (by omega) (by show cntP _ _<_;omega) (fun k _=>by
     show cntP _ j+(bif snkQ b.Ab (k:Int) j then 1 else 0)=_
     unfold snkQ
     rw [h1,Bool.not_false,Bool.and_true])
    simp only [Bool.not_false,cond_true,ja,e1,e2]
    exact hX
   ·have:vecC (fun k=>cntP (snkQ b.Ab (k:Int)) (j+1)) b.Ac.length=vecC (fun k=>cntP (snkQ b.Ab (k:Int)) j) b.Ac.length:=by
     refine qkv (fun k _=>?_)
     show cntP _ j+(bif snkQ b.Ab (k:Int) j then 1 else 0)=_
     unfold snkQ
     rw [h1,jW,Bool.and_false];rfl
    rw [this] at hX
    exact hX
 have hL2:Ev (fun n=>qeB b (vecC (fun k=>snkN b.Ab (k:Int)) b.Ac.length) n 0) (bif allN (fun j=>wireB (gt b.Ac j) (snkN b.Ab (j:Int))) b.Ac.length then .nxt (b.Ac.length:Int) else .ret false):=by
  refine qed ?_ (fun j hj X hX=>Ev.succ ?_)
  ·exact Ev.succ (by simp only [qeB,ql (jb _),cond_false];exact .done)
  ·simp only [qeB,qk hj,cond_true,qA hj,qj5 hj,ja,wS j]
   exact Ev.chk1 (qu8 (qmA h.Ac hj)) fun _=>hX
 refine Ev.bind (qm3 hs) (Ev.bind hL1 (Ev.bind hL2 ?_))
 cases allN (fun j=>wireB (gt b.Ac j) (snkN b.Ab (j:Int))) b.Ac.length<;>exact .done
theorem qpg {b:qf} (h:qlz b):Ev (fun n=>qgG n b) (blockB b):=by
 have hwl:=h.Ac.len
 unfold qgG blockB
 refine Ev.guardB (Ev.or (qsp h.Ay h.Ab) fun _=>.done) fun hb=>?_
 rw [jc] at hb
 have hs:=qX hb.1
 have hL:Ev (fun n=>qeu b n 0) (bif allN (fun j=>wireB (gt b.Ac j) (snkN b.Ab (j:Int))) b.Ac.length then .nxt (b.Ac.length:Int) else .ret false):=by
  refine qed ?_ (fun j hj X hX=>Ev.succ ?_)
  ·exact Ev.succ (by simp only [qeu,ql (jb _),cond_false];exact .done)
  ·simp only [qeu,qk hj,cond_true,qA hj,ja,wS j]
   refine Ev.bind (qmx hs) ?_
   rw [qiz]
   exact Ev.chk1 (qtw (qmA h.Ac hj)) fun _=>hX
 refine Ev.bind hL ?_
 cases allN (fun j=>wireB (gt b.Ac j) (snkN b.Ab (j:Int))) b.Ac.length<;>exact .done
end Go.Fw


namespace Go.Fw
open Go
set_option maxRecDepth 100000
def off (d:qe) (i:Nat):Nat:=(plI d i).length
def place1 (d:qe) (i k:Nat):Tplace:=⟨(i:Int),(k:Int),at0 (gt d.Aa i).Am k,decide (k+1=(gt d.Aa i).Am.length)⟩
def place2 (d:qe) (i:Nat):Tplace:=⟨-1,(i:Int),(gt d.Aj i).Bx,(gt d.Aj i).Bv==1⟩
theorem qka {d:qe} {i:Nat}:off d (i+1)=off d i+(gt d.Aa i).Am.length:=by
 unfold off;rw [qmT,je,qpU]
theorem qtv {d:qe} {i j:Nat} (h:i≤j):off d i≤off d j:=by
 induction j with
 | zero =>
  obtain rfl:i=0:=by omega
  exact jb _
 | succ j ih =>
  rcases Nat.lt_or_eq_of_le h with h|rfl
  ·rw [qka];have:=ih (by omega);omega
  ·exact jb _
theorem qgt {d:qe}:(places d).length=off d d.Aa.length+d.Aj.length:=by
 unfold places off;rw [je,qpX]
theorem qyk {d:qe} {n i k:Nat} (hi:i<n) (hk:k<(gt d.Aa i).Am.length):off d i+k<off d n∧gt (plI d n) (off d i+k)=place1 d i k:=by
 induction n with
 | zero=>omega
 | succ n ih =>
  rw [qmT,qlq]
  rcases Nat.lt_succ_iff_lt_or_eq.1 hi with h|rfl
  ·obtain ⟨h1,h2⟩:=ih h
   refine ⟨by rw [qka];omega,?_⟩
   rw [if_pos (show off d i+k<(plI d n).length from h1),h2]
  ·refine ⟨by rw [qka];omega,?_⟩
   rw [if_neg (by unfold off;omega),show off d i+k-(plI d i).length=k by unfold off;omega]
   exact qp4 hk
theorem qjY {d:qe} {i k:Nat} (hi:i<d.Aa.length) (hk:k<(gt d.Aa i).Am.length):off d i+k<(places d).length∧gt (places d) (off d i+k)=place1 d i k:=by
 obtain ⟨h1,h2⟩:=qyk hi hk
 refine ⟨by rw [qgt];omega,?_⟩
 unfold places
 rw [qlq,if_pos (show off d i+k<(plI d d.Aa.length).length from h1),h2]
theorem qrs {d:qe} {i:Nat} (hi:i<d.Aj.length):off d d.Aa.length+i<(places d).length∧gt (places d) (off d d.Aa.length+i)=place2 d i:=by
 refine ⟨by rw [qgt];omega,?_⟩
 unfold places
 rw [qlq,if_neg (by unfold off;omega),show off d d.Aa.length+i-(plI d d.Aa.length).length=i by unfold off;omega]
 exact qp4 hi
theorem qve {d:qe} {n j:Nat} (hj:j<off d n):∃ i k,i<n∧k<(gt d.Aa i).Am.length∧j=off d i+k:=by
 induction n with
 | zero=>exact absurd hj (Nat.not_lt_zero _)
 | succ n ih =>
  by_cases h:j<off d n
  ·obtain ⟨i,k,h1,h2,h3⟩:=ih h
   exact ⟨i,k,by omega,h2,h3⟩
  ·rw [qka] at hj
   exact ⟨n,j-off d n,by omega,by omega,by omega⟩
theorem qkT {d:qe} {j:Nat} (hj:j<(places d).length) :
  (∃ i k,i<d.Aa.length∧k<(gt d.Aa i).Am.length∧j=off d i+k∧gt (places d) j=place1 d i k) ∨
  (∃ i,i<d.Aj.length∧j=off d d.Aa.length+i∧gt (places d) j=place2 d i):=by
 rw [qgt] at hj
 by_cases h:j<off d d.Aa.length
 ·obtain ⟨i,k,h1,h2,rfl⟩:=qve h
  exact .inl ⟨i,k,h1,h2,rfl,(qjY h1 h2).2⟩
 ·refine .inr ⟨j-off d d.Aa.length,by omega,by omega,?_⟩
  have:=(qrs (d:=d) (i:=j-off d d.Aa.length) (by omega)).2
  rwa [show off d d.Aa.length+(j-off d d.Aa.length)=j by omega] at this
def drvQ (d:qe) (k:Int) (j:Nat):Bool:=((gt (places d) j).net==k)&&(gt (places d) j).drives
theorem qsA {q:Nat→Bool} {m n:Nat}:cntP q (m+n)=cntP q m+cntP (fun j=>q (m+j)) n:=by
 induction n with
 | zero=>rfl
 | succ n ih =>
  show cntP q (m+n)+(bif q (m+n) then 1 else 0)=cntP q m+(cntP (fun j=>q (m+j)) n+(bif q (m+n) then 1 else 0))
  rw [ih];omega
theorem qvv {q:Nat→Bool} {n:Nat} {b:Bool} (h:1≤n) (h1:∀ j,j+1<n→q j=false) (h2:q (n-1)=b):cntP q n=bif b then 1 else 0:=by
 obtain ⟨m,rfl⟩:∃ m,n=m+1:=⟨n-1,by omega⟩
 show cntP q m+(bif q m then 1 else 0)=_
 rw [qna.2 (fun j hj=>h1 j (by omega)),show m=m+1-1 by omega,h2,jU]
theorem qt3 {d:qe} {k:Nat} (hs:smallD d):cntP (drvQ d (k:Int)) (places d).length=drvI d k d.Aa.length+drvP d k d.Aj.length:=by
 rw [qgt,qsA]
 congr 1
 ·have:∀ n,n≤d.Aa.length→cntP (drvQ d (k:Int)) (off d n)=drvI d k n:=by
   intro n
   induction n with
   | zero=>intro _;rfl
   | succ n ih =>
    intro hn
    rw [qka,qsA,ih (by omega),qo8]
    congr 1
    have h2:=(hs.nx n (by omega)).1
    refine qvv (by omega) (fun j hj=>?_) ?_
    ·show drvQ d _ (off d n+j)=false
     unfold drvQ
     rw [(qjY (by omega) (by omega)).2]
     unfold place1
     simp;omega
    ·show drvQ d _ (off d n+_)=_
     unfold drvQ
     rw [(qjY (by omega) (by omega)).2]
     unfold place1 lastN
     simp;omega
  exact this _ (jb _)
 ·refine qqi (fun j hj=>?_)
  show drvQ d _ (off d _+j)=_
  unfold drvQ
  rw [(qrs hj).2]
  unfold place2
  exact Bool.and_comm _ _
theorem quq {l:qq} {d:qe} (h:designB l d=true) {k:Nat} (hk:k<d.Am.length):cntP (drvQ d (k:Int)) (places d).length=1:=by
 rw [qt3 (qX h)]
 unfold designB drvB at h
 simp only [jc] at h
 have:=qah.1 h.2.2.2 k hk
 rw [beq_iff_eq] at this
 omega
theorem qs8 {l:qq} {d:qe} (h:designB l d=true) {i j:Nat} (hi:i<(places d).length) (hj:j<(places d).length) (he:(gt (places d) i).net=(gt (places d) j).net) (h1:(gt (places d) i).drives=true) (h2:(gt (places d) j).drives=true):i=j:=by
 obtain ⟨n0,n1⟩:=qlM h hi
 have e:=qem n0
 have:=quq h (k:=(gt (places d) i).net.toNat) (by omega)
 refine qsD (Nat.le_of_eq this) hi hj ?_ ?_
 ·unfold drvQ;rw [←e,h1];simp
 ·unfold drvQ;rw [←e,h2,he];simp
theorem qx4 {l:qq} {d:qe} (h:designB l d=true) {k:Int} (h0:0≤k) (h1:k<d.Am.length):∃ j,j<(places d).length∧(gt (places d) j).net=k∧(gt (places d) j).drives=true:=by
 have e:=qem h0
 have:=quq h (k:=k.toNat) (by omega)
 have hp:decide (0<cntP (drvQ d ((k.toNat:Nat):Int)) (places d).length)=true:=by rw [this];rfl
 rw [qsy,jE,qlL] at hp
 obtain ⟨j,hj,hq⟩:=hp
 rw [Bool.not_eq_false',←e] at hq
 unfold drvQ at hq
 simp only [jc,beq_iff_eq] at hq
 exact ⟨j,hj,hq.1,hq.2⟩
def cellAt (b:qf) (i:Int):qB:=gt b.Ay.Aq (gt b.Ab.Aa i.toNat).Bs.toNat
theorem qgR {l:qq} {d:qe} (h:designB l d=true) {i:Nat} (hi:i<d.Aa.length) :
  (0≤(gt d.Aa i).Bs∧(gt d.Aa i).Bs<l.Aq.length)∧(gt d.Aa i).Am.length=(gt l.Aq (gt d.Aa i).Bs.toNat).Be.length∧cellB (gt l.Aq (gt d.Aa i).Bs.toNat)=true:=by
 unfold designB libB at h
 simp only [jc] at h
 obtain ⟨⟨⟨hc,_⟩,_⟩,hI,_⟩:=h
 rw [qh4,qah] at hI hc
 have:=hI i hi
 unfold instB at this
 simp only [jc,qa4,beq_iff_eq] at this
 exact ⟨⟨this.1.1,by omega⟩,by omega,hc _ (by omega)⟩
theorem qmZ {c:qB} (h:cellB c=true) {j:Nat} (hj:j<c.Au.length):(1≤(gt c.Au j).Bf∧(gt c.Au j).Bf≤5)∧(0≤(gt c.Au j).Bk∧(gt c.Au j).Bk<(c.Be.length:Int)-1)∧(0≤(gt c.Au j).To∧(gt c.Au j).To≤(c.Be.length:Int)-1)∧arcS c.Be (gt c.Au j)=true:=by
 unfold cellB at h
 simp only [jc] at h
 obtain ⟨_,hp,⟨ha,_⟩,_,_,hk⟩:=h
 have:=qah.1 ha j hj
 rw [jc,qv9 hp (qrd hk)] at this
 have h1:=this.1
 refine ⟨qri h1,?_⟩
 have h2:=h1
 unfold arcS at h2
 simp only [jc,qa4] at h2
 refine ⟨⟨h2.1.1.1,by omega⟩,h2.1.2,h1⟩
theorem qnG {c:qB} (h:cellB c=true):c.Au.length≤8:=by
 unfold cellB at h
 simp only [jc,decide_eq_true_eq] at h
 exact h.2.2.1.2
theorem qaq {b:qf} (h:blockB b=true):designB b.Ay b.Ab=true:=by
 unfold blockB at h;simp only [jc] at h;exact h.1.1
end Go.Fw
