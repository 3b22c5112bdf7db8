/- By a program of mine (gen.py): for each function a plain function and the proof that the code computes it. -/
import Derived.Test.YtflinekphmgbeaaGreatDoorA2
import Derived.Test.YtflinekphmgbeaaGreatDoorFw29
import Derived.Test.YtflinekphmgbeaaGreatDoorFw38
open Option renaming bind_some → jd
open Nat renaming le_refl → je, mul_le_mul_right → js, le_of_ble_eq_true → ju, lt_of_lt_of_le → jx, succ_mul → jJ, zero_add → Ja, add_zero → Jb
open Bool renaming and_eq_true → jf, eq_iff_iff → jm, true_and → jA, not_eq_true' → jI, not_true → Jc
open Go.Result renaming andThen_ok → jg
open List renaming length_append → jh, getElem?_eq_getElem → ji, mem_cons_of_mem → jo, getElem_mem → jp, append_assoc → jq, getElem?_append_left → jr, length_singleton → jt, take_succ_eq_append_getElem → jv, getElem?_append_right → jw, mem_cons_self → jy, length_map → jz, getElem?_take → jB, getD_eq_getElem?_getD → jC, take_length → jD, getElem?_toArray → jE, drop_eq_getElem_cons → jF, eq_nil_of_length_eq_zero → jH, map_append → jK, all_eq_true → jL, not_mem_nil → jN, getElem_of_mem → jO, length_replicate → jP, size_toArray → jQ, length_take → jS, mem_cons → jU, getElem?_map → jV, append_nil → jY, ext_getElem → jZ
open Go.Sem renaming run_bind → jj, run_pure → jk
open Int renaming toNat_natCast → jn, tdiv_eq_ediv_of_nonneg → jG, mul_nonneg → jR, mul_assoc → jT, mul_le_mul → jW, le_refl → jX
open Array renaming getElem?_append_left → jM

namespace Go.Fw
open Go Go.Proofs
open Go.RowKit (Below)
set_option maxRecDepth 100000
set_option maxHeartbeats 1600000
variable {n:Nat} {w:World} {cs1 cs2 cs3 cs4 cs5 cs6 cs7 cs8 cs9:List Value}
def qds (a_0:qw) (i1:Int) (y1:qF):Nat→Int→Option (Flow Bool Int)
 | 0,_=>none
 | n+1,i2 =>
  bif decide (i2<i1) then
   (idx a_0.Au i2).bind fun y2 =>
   bif (y2.Be==y1.Be) then
    (idx a_0.Au i2).bind fun y3 =>
    bif (y3.Bk==y1.Bk) then
     (idx a_0.Au i2).bind fun y4 =>
     bif (y4.To==y1.To) then some (.ret false) else
     qds a_0 i1 y1 n (W64 (i2+1))
    else
     qds a_0 i1 y1 n (W64 (i2+1))
   else
    qds a_0 i1 y1 n (W64 (i2+1))
  else
   some (.nxt i2)
def qfQ (a_0:qw):Nat→Int→Option (Flow Bool Int)
 | 0,_=>none
 | n+1,i3 =>
  bif decide (i3<(a_0.Bo.length:Int)) then
   (idx a_0.Bo i3).bind fun y5 =>
   (qav n y5 0 1).bind fun r6 =>
   bif (!r6) then some (.ret false) else
   qfQ a_0 n (W64 (i3+1))
  else
   some (.nxt i3)
def qfT (a_0:qw):Nat→Int→Option (Flow Bool Int)
 | 0,_=>none
 | n+1,i1 =>
  bif decide (i1<(a_0.Au.length:Int)) then
   (idx a_0.Au i1).bind fun y1 =>
   (qlz n a_0 y1).bind fun r4 =>
   bif (!r4) then some (.ret false) else
   (qds a_0 i1 y1 n 0).bind fun o=>match o with
   | .ret r=>some (.ret r)
   | .nxt _ =>
    qfT a_0 n (W64 (i1+1))
  else
   some (.nxt i1)
def qlA (n:Nat) (a_0:qw):Option Bool :=
 (qkv n a_0).bind fun o=>match o with
  | (r2,r3) =>
   (
    bif (!r3) then some true else
    (qf3 n a_0.Bb).bind fun r7 =>
    bif (!r7) then some true else
    bif decide ((a_0.Au.length:Int) > 8) then some true else
    (qav n a_0.Ca 0 100000).bind fun r8 =>
    bif (!r8) then some true else
    (qav n a_0.Bu 0 100000).bind fun r9 =>
    some (!r9)).bind fun b1 =>
   bif b1 then some false else
   (qfT a_0 n 0).bind fun o=>match o with
   | .ret r=>some r
   | .nxt _ =>
    (qjC n a_0).bind fun r5 =>
    bif (a_0.Be==1) then
     (qfQ a_0 n 0).bind fun o=>match o with
     | .ret r=>some r
     | .nxt _ =>
      bif (r2==0) then
       (shlS 1 (IntKind.wrap .u64 (W64 ((a_0.Bd.length:Int)-1)))).bind fun y6 =>
       some ((a_0.Bo.length:Int)==y6)
      else
       some false
    else
     bif (a_0.Be==2) then
      bif (r2==1) then
       (idx r5 1).bind fun y7 =>
       bif (y7==0) then
        (idx r5 2).bind fun y8 =>
        (idx r5 3).bind fun y9 =>
        bif (!((decide (y8 > 0))==(decide (y9 > 0)))) then some ((a_0.Bo.length:Int)==0) else
        some false
       else
        some false
      else
       some false
     else
      bif (a_0.Be==3) then
       bif (r2==1) then
        (idx r5 1).bind fun y10 =>
        bif decide (y10 > 0) then
         (idx r5 2).bind fun y11 =>
         bif decide (y11 > 0) then
          (idx r5 3).bind fun y12 =>
          bif (y12==0) then some ((a_0.Bo.length:Int)==0) else
          some false
         else
          some false
        else
         some false
       else
        some false
      else
       some false
theorem qrv {a_0:qw} (ha1:GoT.R w (old w) a_0 cs1) {r:Bool} (hF:qlA n a_0=some r):RetV Tryz.prog 237 [GoT.v qw cs1] w r:=by
 obtain ⟨p1,k1,p2,k2,p3,k3,rfl,s1,s2,s3⟩:=qac ha1
 refine zV 182 Tryz.func237 rfl fun h=>zSR (qv h rfl rfl fun w1 bb1 h=>X1 5 0 h rfl ?_)
 obtain ⟨r1,hr1,hF⟩:=qc hF
 obtain ⟨r2,r3⟩:=r1
 refine qa8 (r2,r3) h (cB 260 rfl) (qqe (h.old ha1) hr1) rfl rfl rfl rfl fun w2 S1 us1 hv1 hr2=>?_
 obtain ⟨S2,us2,rfl,hv2,hr3⟩:=hv1.consI hr2
 obtain ⟨rfl,h⟩:=hv2.lastB hr3
 refine X0 8 rfl ?_
 obtain ⟨KF1,hKF1,o4,hF,hK4⟩:=bindE hF
 refine qba (fun e w'=>∃ (b1:Bool),KF1 b1=some r∧e=[(1,.pointer (some ⟨bb1,0,none⟩)),(3,.int .i64 r2),(40,.bool b1)]∧SH w w' [Ch.box bb1 (qd4 a_0 p1 p2 p3 k1 k2 k3) 168]) ?_ ?_
 ·refine X0 4 rfl (qk (t:=17) hF rfl ?_ ?_)<;>intro hF
  ·refine X0 24 rfl ?_
   obtain rfl:=qb hF
   exact rG ⟨_,hK4,rfl,h⟩ rfl
  refine X1 5 0 h rfl (zcB h hF qhV rfl fun r7 w18 h hF=>X0 4 rfl (qk (t:=23) hF rfl ?_ ?_))<;>intro hF
  ·refine X0 18 rfl ?_
   obtain rfl:=qb hF
   exact rG ⟨_,hK4,rfl,h⟩ rfl
  refine X1 10 0 h rfl (qk (t:=29) hF rfl ?_ ?_)<;>intro hF
  ·refine X0 12 rfl ?_
   obtain rfl:=qb hF
   exact rG ⟨_,hK4,rfl,h⟩ rfl
  refine X1 5 0 h rfl (zcB h hF qaj rfl fun r8 w19 h hF=>X0 4 rfl (qk (t:=35) hF rfl ?_ ?_))<;>intro hF
  ·refine X0 6 rfl ?_
   obtain rfl:=qb hF
   exact rG ⟨_,hK4,rfl,h⟩ rfl
  refine X1 5 0 h rfl (zcB h hF qaj rfl fun r9 w20 h hF=>X0 4 rfl ?_)
  obtain rfl:=qb hF
  exact rG ⟨_,hK4,rfl,h⟩ rfl
 rintro e4 w21 ⟨b1,hF,rfl,h⟩
 subst hKF1
 refine qh rfl hF ?_ ?_<;>intro hF
 ·exact X0 4 rfl (rb h hF rfl)
 refine X0 6 rfl ?_
 obtain ⟨o1,hF,hK1⟩:=qc hF
 refine qm (rL (fun m e w'=>∃ (i1:Int),qfT a_0 m i1=some o1∧e=[(1,.pointer (some ⟨bb1,0,none⟩)),(3,.int .i64 r2),(5,.int .i64 i1)]∧SH w w' [Ch.box bb1 (qd4 a_0 p1 p2 p3 k1 k2 k3) 168]) n ⟨_,hF,rfl,h⟩ rfl ?_)
 rintro m1 e1 w3 ⟨i1,hF,rfl,h⟩
 rcases m1 with _|m1
 ·cases hF
 refine X1 9 0 h rfl (qh rfl hF ?_ ?_)<;>intro hF
 ·refine X1 8 0 h rfl ?_
  obtain ⟨y1,hy1,hF,he1,b2,_,q1,cs2,hp1,hq1,hr5,hc3⟩:=s2.ix hF
  obtain ⟨p4,k4,p5,k5,rfl,s4,s5⟩:=qag hr5
  refine zxe hp1 hq1 he1 rfl (zc 0 (hc3.below h.below) rfl (qp qa h rfl rfl rfl fun w4 bb2 h=>zs 0 h rfl fun w5 h=>X2 6 1 0 h rfl (zcB h hF (qq4 (h.old ha1) (qfL y1 (h.oldS s4) (h.oldS s5))) rfl fun r4 w6 h hF=>X0 2 rfl (qh rfl hF ?_ ?_))))<;>intro hF
  ·refine X0 4 rfl ?_
   obtain rfl:=qb hF;replace hF:=hK1
   exact rb h hF rfl
  refine X0 5 rfl ?_
  obtain ⟨o2,hF,hK2⟩:=qc hF
  refine qm (rL (fun m e w'=>∃ (i2:Int),qds a_0 i1 y1 m i2=some o2∧e=[(1,.pointer (some ⟨bb1,0,none⟩)),(3,.int .i64 r2),(5,.int .i64 i1),(6,.pointer (some ⟨bb2,0,none⟩)),(7,.int .i64 i2)]∧SH w w' [Ch.box bb2 (qgV y1 p4 p5 k4 k5) 173,Ch.box bb1 (qd4 a_0 p1 p2 p3 k1 k2 k3) 168]) m1 ⟨_,hF,rfl,h⟩ rfl ?_)
  rintro m2 e2 w7 ⟨i2,hF,rfl,h⟩
  rcases m2 with _|m2
  ·cases hF
  refine X0 7 rfl (qh rfl hF ?_ ?_)<;>intro hF
  ·refine X0 4 rfl (rD (Y1 2 1 h rfl ?_))
   refine zd1 rfl ?_
   obtain ⟨y2,hy2,hF,he2,b3,_,q2,cs3,hp2,hq2,hr7,hc6⟩:=s2.ix hF
   obtain ⟨p6,k6,p7,k7,rfl,s6,s7⟩:=qag hr7
   refine zdxe hp2 hq2 he2 rfl (zd1 rfl (zdc 0 (hc6.below h.below) rfl (Y1 2 0 h rfl ?_)))
   refine zd2 rfl (qaT (t:=71) hF rfl ?_ ?_)<;>intro hF
   ·refine Y1 4 1 h rfl ?_
    refine Y0 3 rfl ?_
    obtain ⟨y3,hy3,hF,he3,b4,_,q3,cs4,hp3,hq3,hr8,hc7⟩:=s2.ix hF
    obtain ⟨p8,k8,p9,k9,rfl,s8,s9⟩:=qag hr8
    refine zdxe hp3 hq3 he3 rfl (Y0 3 rfl (zdc 1 (hc7.below h.below) rfl (Y1 4 0 h rfl ?_)))
    refine Y0 4 rfl (qaT (t:=82) hF rfl ?_ ?_)<;>intro hF
    ·refine Y1 4 1 h rfl ?_
     refine Y0 3 rfl ?_
     obtain ⟨y4,hy4,hF,he4,b5,_,q4,cs5,hp4,hq4,hr9,hc8⟩:=s2.ix hF
     obtain ⟨p10,k10,p11,k11,rfl,s10,s11⟩:=qag hr9
     refine zdxe hp4 hq4 he4 rfl (Y0 3 rfl (zdc 2 (hc8.below h.below) rfl (Y1 4 0 h rfl ?_)))
     refine Y0 3 rfl (dN h fun w8 h=>qh rfl hF ?_ ?_)<;>intro hF
     ·refine X0 4 rfl ?_
      obtain rfl:=qb hF;replace hF:=hK2
      obtain rfl:=qb hF;replace hF:=hK1
      exact rb h hF rfl
     exact X0 7 rfl (rK ⟨_,hF,rfl,h⟩ rfl)
    exact Y0 10 rfl (dN h fun w9 h=>qbV rfl rfl (X0 7 rfl (rK ⟨_,hF,rfl,h⟩ rfl)))
   exact Y0 21 rfl (dN h fun w10 h=>qbV rfl rfl (X0 7 rfl (rK ⟨_,hF,rfl,h⟩ rfl)))
  refine qq rfl ?_
  obtain rfl:=qb hF;replace hF:=hK2
  refine X0 6 rfl ?_
  replace h:=h.pick [1] rfl
  exact rK ⟨_,hF,rfl,h⟩ rfl
 refine qq rfl ?_
 obtain rfl:=qb hF;replace hF:=hK1
 refine X1 3 0 h rfl (zcL h hF (qpw (h.old ha1)) rfl fun r5 w11 S4 p12 k12 h hF=>X1 14 1 h rfl (qh rfl hF ?_ ?_))<;>intro hF
 ·refine X0 5 rfl ?_
  obtain ⟨o3,hF,hK3⟩:=qc hF
  refine qm ?_
  replace h:=h.pick [1] rfl
  refine rL (fun m e w'=>∃ (i3:Int),qfQ a_0 m i3=some o3∧e=[(1,.pointer (some ⟨bb1,0,none⟩)),(3,.int .i64 r2),(9,.int .i64 i3)]∧SH w w' [Ch.box bb1 (qd4 a_0 p1 p2 p3 k1 k2 k3) 168]) n ⟨_,hF,rfl,h⟩ rfl ?_
  rintro m3 e3 w12 ⟨i3,hF,rfl,h⟩
  rcases m3 with _|m3
  ·cases hF
  refine X1 9 0 h rfl (qh rfl hF ?_ ?_)<;>intro hF
  ·refine X1 8 0 h rfl ?_
   obtain ⟨y5,hy5,hF,he5,b6,_,q5,cs6,hp5,hq5,rfl,hc12⟩:=s3.ix hF
   refine zxe hp5 hq5 he5 rfl (zc 0 (hc12.below h.below) rfl (zcB h hF qaj rfl fun r6 w13 h hF=>X0 2 rfl (qh rfl hF ?_ ?_)))<;>intro hF
   ·refine X0 4 rfl ?_
    obtain rfl:=qb hF;replace hF:=hK3
    exact rb h hF rfl
   exact X0 7 rfl (rK ⟨_,hF,rfl,h⟩ rfl)
  refine qq rfl ?_
  obtain rfl:=qb hF;replace hF:=hK3
  refine X0 5 rfl (qk (t:=115) hF rfl ?_ ?_)<;>intro hF
  ·refine X2 17 0 0 h rfl ?_
   obtain ⟨y6,hx1,hF⟩:=qc hF
   obtain ⟨g1,hx1⟩:=qsh hx1
   refine r_v (qzk g1 rfl rfl) rfl ?_
   rw [hx1]
   exact X0 5 rfl (rb h hF rfl)
  exact X0 13 rfl (rb h hF rfl)
 refine X0 5 rfl (qh rfl hF ?_ ?_)<;>intro hF
 ·refine qcX (rD (zd3 rfl (qaT (t:=131) hF rfl ?_ ?_)))<;>intro hF
  ·refine Y0 3 rfl ?_
   obtain ⟨y7,hy6,hF,he6,b7,_,q6,cs7,hp6,hq6,rfl,hc15⟩:=(h.sl 0 rfl).1.ix hF
   refine zdx hp6 hq6 ⟨he6.1,qC he6.2.1 (h.sl 0 rfl).2⟩ rfl (Y0 1 rfl (zdc 0 hc15 rfl (Y0 4 rfl (qaT (t:=137) hF rfl ?_ ?_))))<;>intro hF
   ·refine Y0 3 rfl ?_
    obtain ⟨y8,hy7,hF,he7,b8,_,q7,cs8,hp7,hq7,rfl,hc16⟩:=(h.sl 0 rfl).1.ix hF
    refine zdx hp7 hq7 ⟨he7.1,qC he7.2.1 (h.sl 0 rfl).2⟩ rfl (Y0 1 rfl (zdc 0 hc16 rfl (Y0 5 rfl ?_)))
    obtain ⟨y9,hy8,hF,he8,b9,_,q8,cs9,hp8,hq8,rfl,hc17⟩:=(h.sl 0 rfl).1.ix hF
    refine zdx hp8 hq8 ⟨he8.1,qC he8.2.1 (h.sl 0 rfl).2⟩ rfl (Y0 1 rfl (zdc 0 hc17 rfl (Y0 6 rfl (qaT (t:=148) hF rfl ?_ ?_))))<;>intro hF
    ·refine Y1 4 1 h rfl ?_
     exact Y0 6 rfl (dN h fun w14 h=>rb h hF rfl)
    exact Y0 6 rfl (dN h fun w15 h=>rb h hF rfl)
   exact Y0 17 rfl (dN h fun w16 h=>rb h hF rfl)
  exact Y0 23 rfl (dN h fun w17 h=>rb h hF rfl)
 refine X0 5 rfl (qh rfl hF ?_ ?_)<;>intro hF
 ·refine X0 5 rfl (qk (t:=158) hF rfl ?_ ?_)<;>intro hF
  ·refine X0 3 rfl ?_
   obtain ⟨y10,hy9,hF,he9,b10,_,q9,cs10,hp9,hq9,rfl,hc19⟩:=(h.sl 0 rfl).1.ix hF
   refine zx hp9 hq9 ⟨he9.1,qC he9.2.1 (h.sl 0 rfl).2⟩ rfl (X0 1 rfl (zc 0 hc19 rfl (X0 4 rfl (qk (t:=164) hF rfl ?_ ?_))))<;>intro hF
   ·refine X0 3 rfl ?_
    obtain ⟨y11,hy10,hF,he10,b11,_,q10,cs11,hp10,hq10,rfl,hc20⟩:=(h.sl 0 rfl).1.ix hF
    refine zx hp10 hq10 ⟨he10.1,qC he10.2.1 (h.sl 0 rfl).2⟩ rfl (X0 1 rfl (zc 0 hc20 rfl (X0 4 rfl (qk (t:=170) hF rfl ?_ ?_))))<;>intro hF
    ·refine X0 3 rfl ?_
     obtain ⟨y12,hy11,hF,he11,b12,_,q11,cs12,hp11,hq11,rfl,hc21⟩:=(h.sl 0 rfl).1.ix hF
     refine zx hp11 hq11 ⟨he11.1,qC he11.2.1 (h.sl 0 rfl).2⟩ rfl (X0 1 rfl (zc 0 hc21 rfl (X0 4 rfl (qk (t:=176) hF rfl ?_ ?_))))<;>intro hF
     ·exact X1 11 1 h rfl (rb h hF rfl)
     exact X0 7 rfl (rb h hF rfl)
    exact X0 13 rfl (rb h hF rfl)
   exact X0 19 rfl (rb h hF rfl)
  exact X0 25 rfl (rb h hF rfl)
 exact X0 6 rfl (rb h hF rfl)
def qdF (l:qn) (i1:Int):Nat→Int→Option (Flow Bool Int)
 | 0,_=>none
 | n+1,i2 =>
  bif decide (i2<i1) then
   (idx l.Ar i2).bind fun y2 =>
   (idx l.Ar i1).bind fun y3 =>
   bif (y2.Bb.toList==y3.Bb.toList) then some (.ret false) else
   qdF l i1 n (W64 (i2+1))
  else
   some (.nxt i2)
def qdI (l:qn):Nat→Int→Option (Flow Bool Int)
 | 0,_=>none
 | n+1,i1 =>
  bif decide (i1<(l.Ar.length:Int)) then
   (idx l.Ar i1).bind fun y1 =>
   (qlA n y1).bind fun r1 =>
   bif (!r1) then some (.ret false) else
   (qdF l i1 n 0).bind fun o=>match o with
   | .ret r=>some (.ret r)
   | .nxt _ =>
    qdI l n (W64 (i1+1))
  else
   some (.nxt i1)
def qis (n:Nat) (l:qn):Option Bool :=
 (qdI l n 0).bind fun o=>match o with
 | .ret r=>some r
 | .nxt _ =>
  some (decide ((l.Ar.length:Int)≤8))
theorem qo0 {l:qn} (ha1:GoT.R w (old w) l cs1) {r:Bool} (hF:qis n l=some r):RetV Tryz.prog 206 [GoT.v qn cs1] w r:=by
 obtain ⟨p1,k1,rfl,s1⟩:=qbz ha1
 refine zV 41 Tryz.func206 rfl fun h=>zSR (qv h rfl rfl fun w1 bb1 h=>X0 7 rfl ?_)
 obtain ⟨o1,hF,hK1⟩:=qc hF
 refine qm (rL (fun m e w'=>∃ (i1:Int),qdI l m i1=some o1∧e=[(1,.pointer (some ⟨bb1,0,none⟩)),(3,.int .i64 i1)]∧SH w w' [Ch.box bb1 [.slice p1 l.Ar.length k1] 44]) n ⟨_,hF,rfl,h⟩ rfl ?_)
 rintro m1 e1 w2 ⟨i1,hF,rfl,h⟩
 rcases m1 with _|m1
 ·cases hF
 refine X1 9 0 h rfl (qh rfl hF ?_ ?_)<;>intro hF
 ·refine X1 9 0 h rfl ?_
  obtain ⟨y1,hy1,hF,he1,b1,_,q1,cs2,hp1,hq1,hr1,hc2⟩:=s1.ix hF
  obtain ⟨p2,k2,p3,k3,p4,k4,rfl,s2,s3,s4⟩:=qac hr1
  refine zxe hp1 hq1 he1 rfl (zc 0 (hc2.below h.below) rfl (zcB h hF (qrv (qkx y1 (h.oldS s2) (h.oldS s3) (h.oldS s4))) rfl fun r1 w3 h hF=>X0 2 rfl (qh rfl hF ?_ ?_)))<;>intro hF
  ·refine X0 4 rfl ?_
   obtain rfl:=qb hF;replace hF:=hK1
   exact rb h hF rfl
  refine X0 5 rfl ?_
  obtain ⟨o2,hF,hK2⟩:=qc hF
  refine qm (rL (fun m e w'=>∃ (i2:Int),qdF l i1 m i2=some o2∧e=[(1,.pointer (some ⟨bb1,0,none⟩)),(3,.int .i64 i1),(4,.int .i64 i2)]∧SH w w' [Ch.box bb1 [.slice p1 l.Ar.length k1] 44]) m1 ⟨_,hF,rfl,h⟩ rfl ?_)
  rintro m2 e2 w4 ⟨i2,hF,rfl,h⟩
  rcases m2 with _|m2
  ·cases hF
  refine X0 7 rfl (qh rfl hF ?_ ?_)<;>intro hF
  ·refine X0 4 rfl (rD (Y1 2 0 h rfl ?_))
   refine zd1 rfl ?_
   obtain ⟨y2,hy2,hF,he2,b2,_,q2,cs3,hp2,hq2,hr3,hc5⟩:=s1.ix hF
   obtain ⟨p5,k5,p6,k6,p7,k7,rfl,s5,s6,s7⟩:=qac hr3
   refine zdxe hp2 hq2 he2 rfl (zd1 rfl (zdc 0 (hc5.below h.below) rfl (Y1 2 0 h rfl ?_)))
   refine zd1 rfl ?_
   obtain ⟨y3,hy3,hF,he3,b3,_,q3,cs4,hp3,hq3,hr4,hc6⟩:=s1.ix hF
   obtain ⟨p8,k8,p9,k9,p10,k10,rfl,s8,s9,s10⟩:=qac hr4
   refine zdxe hp3 hq3 he3 rfl (zd1 rfl (zdc 0 (hc6.below h.below) rfl (zd1 rfl (dN h fun w5 h=>qh rfl hF ?_ ?_))))<;>intro hF
   ·refine X0 4 rfl ?_
    obtain rfl:=qb hF;replace hF:=hK2
    obtain rfl:=qb hF;replace hF:=hK1
    exact rb h hF rfl
   exact X0 7 rfl (rK ⟨_,hF,rfl,h⟩ rfl)
  refine qq rfl ?_
  obtain rfl:=qb hF;replace hF:=hK2
  exact X0 6 rfl (rK ⟨_,hF,rfl,h⟩ rfl)
 refine qq rfl ?_
 obtain rfl:=qb hF;replace hF:=hK1
 exact X1 8 0 h rfl (rb h hF rfl)
def qeg (a_1:qd) (y1:qi):Nat→Int→Option (Flow Bool Int)
 | 0,_=>none
 | n+1,i2 =>
  bif decide (i2<(y1.Ak.length:Int)) then
   (idx y1.Ak i2).bind fun y2 =>
   (qav n y2 0 (W64 ((a_1.Ak.length:Int)-1))).bind fun r1 =>
   bif (!r1) then some (.ret false) else
   qeg a_1 y1 n (W64 (i2+1))
  else
   some (.nxt i2)
def qek (a_1:qd):Nat→Int→Option (Flow Bool Int)
 | 0,_=>none
 | n+1,i3 =>
  bif decide (i3<(a_1.Aj.length:Int)) then
   (idx a_1.Aj i3).bind fun y4 =>
   (qav n y4.Bv 1 2).bind fun r3 =>
   bif (!r3) then some (.ret false) else
   (idx a_1.Aj i3).bind fun y5 =>
   (qav n y5.Bx 0 (W64 ((a_1.Ak.length:Int)-1))).bind fun r4 =>
   bif (!r4) then some (.ret false) else
   qek a_1 n (W64 (i3+1))
  else
   some (.nxt i3)
def qew (a_0:qn) (a_1:qd):Nat→Int→Option (Flow Bool Int)
 | 0,_=>none
 | n+1,i1 =>
  bif decide (i1<(a_1.Aa.length:Int)) then
   (idx a_1.Aa i1).bind fun y1 =>
   (
    (qav n y1.Bt 0 (W64 ((a_0.Ar.length:Int)-1))).bind fun r2 =>
    bif (!r2) then some true else
    (idx a_0.Ar y1.Bt).bind fun y3 =>
    some ((y1.Ak.length:Int) != (y3.Bd.length:Int))).bind fun b2 =>
   bif b2 then some (.ret false) else
   (qeg a_1 y1 n 0).bind fun o=>match o with
   | .ret r=>some (.ret r)
   | .nxt _ =>
    qew a_0 a_1 n (W64 (i1+1))
  else
   some (.nxt i1)
def qjr (n:Nat) (a_0:qn) (a_1:qd):Option Bool :=
 (qew a_0 a_1 n 0).bind fun o=>match o with
 | .ret r=>some r
 | .nxt _ =>
  (qek a_1 n 0).bind fun o=>match o with
  | .ret r=>some r
  | .nxt _ =>
   some true
theorem qpM {a_0:qn} {a_1:qd} (ha1:GoT.R w (old w) a_0 cs1) (ha2:GoT.R w (old w) a_1 cs2) {r:Bool} (hF:qjr n a_0 a_1=some r):RetV Tryz.prog 207 [GoT.v qn cs1,GoT.v qd cs2] w r:=by
 obtain ⟨p1,k1,rfl,s1⟩:=qbz ha1
 obtain ⟨p2,k2,p3,k3,p4,k4,rfl,s2,s3,s4⟩:=qax ha2
 refine zV 90 Tryz.func207 rfl fun h=>zSR (qv h rfl rfl fun w1 bb1 h=>qv h rfl rfl fun w2 bb2 h=>X1 14 0 h rfl ?_)
 obtain ⟨o1,hF,hK1⟩:=qc hF
 refine qm (rL (fun m e w'=>∃ (i1:Int),qew a_0 a_1 m i1=some o1∧e=[(2,.pointer (some ⟨bb1,0,none⟩)),(3,.pointer (some ⟨bb2,0,none⟩)),(5,.int .i64 (a_1.Ak.length:Int)),(6,.int .i64 i1)]∧SH w w' [Ch.box bb2 (qaS a_1 p2 p3 p4 k2 k3 k4) 48,Ch.box bb1 [.slice p1 a_0.Ar.length k1] 44]) n ⟨_,hF,rfl,h⟩ rfl ?_)
 rintro m1 e1 w3 ⟨i1,hF,rfl,h⟩
 rcases m1 with _|m1
 ·cases hF
 refine X1 9 0 h rfl (qh rfl hF ?_ ?_)<;>intro hF
 ·refine X1 8 0 h rfl ?_
  obtain ⟨y1,hy1,hF,he1,b1,_,q1,cs3,hp1,hq1,hr1,hc2⟩:=s2.ix hF
  obtain ⟨p5,k5,rfl,s5⟩:=qP hr1
  refine zxe hp1 hq1 he1 rfl (zc 0 (hc2.below h.below) rfl (qp qa h rfl rfl rfl fun w4 bb3 h=>zs 0 h rfl fun w5 h=>zNSS ?_))
  obtain ⟨KF1,hKF1,o3,hF,hK3⟩:=bindE hF
  refine qba (fun e w'=>∃ (b2:Bool),KF1 b2=some o1∧e=[(2,.pointer (some ⟨bb1,0,none⟩)),(3,.pointer (some ⟨bb2,0,none⟩)),(5,.int .i64 (a_1.Ak.length:Int)),(6,.int .i64 i1),(7,.pointer (some ⟨bb3,0,none⟩)),(46,.bool b2)]∧SH w w' [Ch.box bb3 (qjN y1 p5 k5) 170,Ch.box bb2 (qaS a_1 p2 p3 p4 k2 k3 k4) 48,Ch.box bb1 [.slice p1 a_0.Ar.length k1] 44]) ?_ ?_
  ·refine rD (Y1 2 0 h rfl ?_)
   refine Y1 2 2 h rfl ?_
   refine zd2 rfl ?_
   obtain ⟨r2,hr4,hF⟩:=qc hF
   refine qbo r2 (vsB _) (cB 63 rfl) (fun _ hb=>qaj  hr4) rfl rfl rfl rfl (zd2 rfl (qaT (t:=33) hF rfl ?_ ?_))<;>intro hF
   ·refine Y0 13 rfl (dN h fun w8 h=>?_)
    obtain rfl:=qb hF
    exact rG ⟨_,hK3,rfl,h⟩ rfl
   refine Y1 4 0 h rfl ?_
   refine Y1 6 2 h rfl ?_
   refine Y1 4 0 h rfl ?_
   refine Y0 1 rfl ?_
   obtain ⟨y3,hy3,hF,he3,b4,_,q3,cs5,hp3,hq3,hr5,hc7⟩:=s1.ix hF
   obtain ⟨p6,k6,p7,k7,p8,k8,rfl,s6,s7,s8⟩:=qac hr5
   refine zdxe hp3 hq3 he3 rfl (Y0 3 rfl (zdc 2 (hc7.below h.below) rfl (Y0 5 rfl (dN h fun w9 h=>?_))))
   obtain rfl:=qb hF
   exact rG ⟨_,hK3,rfl,h⟩ rfl
  rintro e3 w10 ⟨b2,hF,rfl,h⟩
  subst hKF1
  refine qh rfl hF ?_ ?_<;>intro hF
  ·refine X0 4 rfl ?_
   obtain rfl:=qb hF;replace hF:=hK1
   exact rb h hF rfl
  refine X0 5 rfl ?_
  obtain ⟨o2,hF,hK2⟩:=qc hF
  refine qm (rL (fun m e w'=>∃ (i2:Int),qeg a_1 y1 m i2=some o2∧e=[(2,.pointer (some ⟨bb1,0,none⟩)),(3,.pointer (some ⟨bb2,0,none⟩)),(5,.int .i64 (a_1.Ak.length:Int)),(6,.int .i64 i1),(7,.pointer (some ⟨bb3,0,none⟩)),(8,.int .i64 i2)]∧SH w w' [Ch.box bb3 (qjN y1 p5 k5) 170,Ch.box bb2 (qaS a_1 p2 p3 p4 k2 k3 k4) 48,Ch.box bb1 [.slice p1 a_0.Ar.length k1] 44]) m1 ⟨_,hF,rfl,h⟩ rfl ?_)
  rintro m2 e2 w6 ⟨i2,hF,rfl,h⟩
  rcases m2 with _|m2
  ·cases hF
  refine X1 9 0 h rfl (qh rfl hF ?_ ?_)<;>intro hF
  ·refine X1 8 0 h rfl ?_
   obtain ⟨y2,hy2,hF,he2,b3,_,q2,cs4,hp2,hq2,rfl,hc5⟩:=s5.ix hF
   refine zxe hp2 hq2 he2 rfl (zc 0 (hc5.below h.below) rfl (zp2 rfl (zcB h hF qaj rfl fun r1 w7 h hF=>X0 2 rfl (qh rfl hF ?_ ?_))))<;>intro hF
   ·refine X0 4 rfl ?_
    obtain rfl:=qb hF;replace hF:=hK2
    obtain rfl:=qb hF;replace hF:=hK1
    exact rb h hF rfl
   exact X0 7 rfl (rK ⟨_,hF,rfl,h⟩ rfl)
  refine qq rfl ?_
  obtain rfl:=qb hF;replace hF:=hK2
  refine X0 6 rfl ?_
  replace h:=h.pick [1,2] rfl
  exact rK ⟨_,hF,rfl,h⟩ rfl
 refine qq rfl ?_
 obtain rfl:=qb hF;replace hF:=hK1
 refine X0 5 rfl ?_
 obtain ⟨o4,hF,hK4⟩:=qc hF
 refine qm ?_
 replace h:=h.pick [0] rfl
 refine rL (fun m e w'=>∃ (i3:Int),qek a_1 m i3=some o4∧e=[(3,.pointer (some ⟨bb2,0,none⟩)),(5,.int .i64 (a_1.Ak.length:Int)),(9,.int .i64 i3)]∧SH w w' [Ch.box bb2 (qaS a_1 p2 p3 p4 k2 k3 k4) 48]) n ⟨_,hF,rfl,h⟩ rfl ?_
 rintro m3 e4 w11 ⟨i3,hF,rfl,h⟩
 rcases m3 with _|m3
 ·cases hF
 refine X1 9 0 h rfl (qh rfl hF ?_ ?_)<;>intro hF
 ·refine X1 8 0 h rfl ?_
  obtain ⟨y4,hy4,hF,he4,b5,_,q4,cs6,hp4,hq4,hr6,hc9⟩:=s4.ix hF
  obtain rfl:=qaV hr6
  refine zxe hp4 hq4 he4 rfl (zp1 rfl (zc 1 (hc9.below h.below) rfl (zcB h hF qaj rfl fun r3 w12 h hF=>zp2 rfl (qk (t:=78) hF rfl ?_ ?_))))<;>intro hF
  ·refine X0 12 rfl (qbU rfl rfl (X0 4 rfl ?_))
   obtain rfl:=qb hF;replace hF:=hK4
   exact rb h hF rfl
  refine X1 7 0 h rfl ?_
  obtain ⟨y5,hy5,hF,he5,b6,_,q5,cs7,hp5,hq5,hr8,hc10⟩:=s4.ix hF
  obtain rfl:=qaV hr8
  refine zxe hp5 hq5 he5 rfl (X0 3 rfl (zc 2 (hc10.below h.below) rfl (X0 5 rfl (zcB h hF qaj rfl fun r4 w13 h hF=>X0 4 rfl (qh rfl hF ?_ ?_)))))<;>intro hF
  ·refine X0 4 rfl ?_
   obtain rfl:=qb hF;replace hF:=hK4
   exact rb h hF rfl
  exact X0 7 rfl (rK ⟨_,hF,rfl,h⟩ rfl)
 refine qq rfl ?_
 obtain rfl:=qb hF;replace hF:=hK4
 exact X0 4 rfl (rb h hF rfl)
def qel (list:(List ByteArray)) (i1:Int):Nat→Int→Option (Flow Bool Int)
 | 0,_=>none
 | n+1,i2 =>
  bif decide (i2<i1) then
   (idx list i2).bind fun y2 =>
   (idx list i1).bind fun y3 =>
   bif (y2.toList==y3.toList) then some (.ret false) else
   qel list i1 n (W64 (i2+1))
  else
   some (.nxt i2)
def qes (list:(List ByteArray)):Nat→Int→Option (Flow Bool Int)
 | 0,_=>none
 | n+1,i1 =>
  bif decide (i1<(list.length:Int)) then
   (idx list i1).bind fun y1 =>
   (qf3 n y1).bind fun r1 =>
   bif (!r1) then some (.ret false) else
   (qel list i1 n 0).bind fun o=>match o with
   | .ret r=>some (.ret r)
   | .nxt _ =>
    qes list n (W64 (i1+1))
  else
   some (.nxt i1)
def qgw (n:Nat) (list:(List ByteArray)):Option Bool :=
 (qes list n 0).bind fun o=>match o with
 | .ret r=>some r
 | .nxt _ =>
  some true
theorem qjf {list:(List ByteArray)} (ha1:GoT.R w (old w) list cs1) {r:Bool} (hF:qgw n list=some r):RetV Tryz.prog 208 [GoT.v (List ByteArray) cs1] w r:=by
 obtain ⟨p1,k1,rfl,s1⟩:=ha1
 refine zV 31 Tryz.func208 rfl fun h=>X0 9 rfl ?_
 obtain ⟨o1,hF,hK1⟩:=qc hF
 refine qm (rL (fun m e w'=>∃ (i1:Int),qes list m i1=some o1∧e=[(0,.slice p1 list.length k1),(3,.int .i64 i1)]∧SH w w' []) n ⟨_,hF,rfl,h⟩ rfl ?_)
 rintro m1 e1 w1 ⟨i1,hF,rfl,h⟩
 rcases m1 with _|m1
 ·cases hF
 refine X0 8 rfl (qh rfl hF ?_ ?_)<;>intro hF
 ·refine X0 8 rfl ?_
  obtain ⟨y1,hy1,hF,he1,b1,_,q1,cs2,hp1,hq1,rfl,hc2⟩:=s1.ix hF
  refine zxe hp1 hq1 he1 rfl (zc 0 (hc2.below h.below) rfl (zcB h hF qhV rfl fun r1 w2 h hF=>X0 2 rfl (qh rfl hF ?_ ?_)))<;>intro hF
  ·refine X0 4 rfl ?_
   obtain rfl:=qb hF;replace hF:=hK1
   exact rb h hF rfl
  refine X0 5 rfl ?_
  obtain ⟨o2,hF,hK2⟩:=qc hF
  refine qm (rL (fun m e w'=>∃ (i2:Int),qel list i1 m i2=some o2∧e=[(0,.slice p1 list.length k1),(3,.int .i64 i1),(4,.int .i64 i2)]∧SH w w' []) m1 ⟨_,hF,rfl,h⟩ rfl ?_)
  rintro m2 e2 w3 ⟨i2,hF,rfl,h⟩
  rcases m2 with _|m2
  ·cases hF
  refine X0 7 rfl (qh rfl hF ?_ ?_)<;>intro hF
  ·refine X0 4 rfl (rD (zd2 rfl ?_))
   obtain ⟨y2,hy2,hF,he2,b2,_,q2,cs3,hp2,hq2,rfl,hc5⟩:=s1.ix hF
   refine zdxe hp2 hq2 he2 rfl (zdc 0 (hc5.below h.below) rfl (zd2 rfl ?_))
   obtain ⟨y3,hy3,hF,he3,b3,_,q3,cs4,hp3,hq3,rfl,hc6⟩:=s1.ix hF
   refine zdxe hp3 hq3 he3 rfl (zdc 0 (hc6.below h.below) rfl (zd1 rfl (dN h fun w4 h=>qh rfl hF ?_ ?_)))<;>intro hF
   ·refine X0 4 rfl ?_
    obtain rfl:=qb hF;replace hF:=hK2
    obtain rfl:=qb hF;replace hF:=hK1
    exact rb h hF rfl
   exact X0 7 rfl (rK ⟨_,hF,rfl,h⟩ rfl)
  refine qq rfl ?_
  obtain rfl:=qb hF;replace hF:=hK2
  exact X0 6 rfl (rK ⟨_,hF,rfl,h⟩ rfl)
 refine qq rfl ?_
 obtain rfl:=qb hF;replace hF:=hK1
 exact X0 4 rfl (rb h hF rfl)
def qeh (x5:(List Int)) (x7:(List Int)):Nat→Int→Option (Flow Bool Int)
 | 0,_=>none
 | n+1,i5 =>
  bif decide (i5<(x5.length:Int)) then
   (idx x7 i5).bind fun y11 =>
   bif (y11 != 1) then some (.ret false) else
   qeh x5 x7 n (W64 (i5+1))
  else
   some (.nxt i5)
def qcw (a_1:qd):Nat→(List Int)→Int→Option ((List Int) × Int)
 | 0,_,_=>none
 | n+1,x7,i4 =>
  bif decide (i4<(a_1.Aj.length:Int)) then
   (idx a_1.Aj i4).bind fun y7 =>
   bif (y7.Bv==1) then
    (idx a_1.Aj i4).bind fun y8 =>
    (idx x7 y8.Bx).bind fun y9 =>
    (idx x7 y8.Bx).bind fun _ =>
    qcw a_1 n (setS x7 y8.Bx (W64 (y9+1))) (W64 (i4+1))
   else
    qcw a_1 n x7 (W64 (i4+1))
  else
   some (x7,i4)
def qdg (a_1:qd):Nat→(List Int)→Int→Option ((List Int) × Int)
 | 0,_,_=>none
 | n+1,x6,i3 =>
  bif decide (i3<(a_1.Aa.length:Int)) then
   (idx a_1.Aa i3).bind fun y3 =>
   (idx y3.Ak (W64 ((y3.Ak.length:Int)-1))).bind fun y4 =>
   (idx x6 y4).bind fun y5 =>
   (idx x6 y4).bind fun _ =>
   qdg a_1 n (setS x6 y4 (W64 (y5+1))) (W64 (i3+1))
  else
   some (x6,i3)
def qdk (a_1:qd):Nat→(List ByteArray)→Int→Option ((List ByteArray) × Int)
 | 0,_,_=>none
 | n+1,x3,i2 =>
  bif decide (i2<(a_1.Aj.length:Int)) then
   (idx a_1.Aj i2).bind fun y2 =>
   (appS x3 ([y2.Bb]:List ByteArray)).bind fun x4 =>
   qdk a_1 n x4 (W64 (i2+1))
  else
   some (x3,i2)
def qde (a_1:qd):Nat→(List ByteArray)→Int→Option ((List ByteArray) × Int)
 | 0,_,_=>none
 | n+1,x1,i1 =>
  bif decide (i1<(a_1.Aa.length:Int)) then
   (idx a_1.Aa i1).bind fun y1 =>
   (appS x1 ([y1.Bb]:List ByteArray)).bind fun x2 =>
   qde a_1 n x2 (W64 (i1+1))
  else
   some (x1,i1)
def qjn (n:Nat) (a_0:qn) (a_1:qd):Option Bool :=
 (
  (qis n a_0).bind fun r4 =>
  bif (!r4) then some true else
  bif decide ((a_1.Aa.length:Int) > 14) then some true else
  bif decide ((a_1.Ak.length:Int) > 30) then some true else
  bif decide ((a_1.Aj.length:Int) > 8) then some true else
  (qjr n a_0 a_1).bind fun r5 =>
  some (!r5)).bind fun b1 =>
 bif b1 then some false else
 (qde a_1 n ([]:List ByteArray) 0).bind fun o=>match o with
 | (x1,_) =>
  (qdk a_1 n ([]:List ByteArray) 0).bind fun o=>match o with
  | (x3,_) =>
   (
    (qgw n x1).bind fun r1 =>
    bif (!r1) then some true else
    (qgw n x3).bind fun r2 =>
    bif (!r2) then some true else
    (qgw n a_1.Ak).bind fun r3 =>
    some (!r3)).bind fun b4 =>
   bif b4 then some false else
   (mkS (a_1.Ak.length:Int) (0:Int)).bind fun x5 =>
   (qdg a_1 n x5 0).bind fun o=>match o with
   | (x6,_) =>
    (qcw a_1 n x6 0).bind fun o=>match o with
    | (x7,_) =>
     (qeh x5 x7 n 0).bind fun o=>match o with
     | .ret r=>some r
     | .nxt _ =>
      some true
theorem qpQ {a_0:qn} {a_1:qd} (ha1:GoT.R w (old w) a_0 cs1) (ha2:GoT.R w (old w) a_1 cs2) {r:Bool} (hF:qjn n a_0 a_1=some r):RetV Tryz.prog 177 [GoT.v qn cs1,GoT.v qd cs2] w r:=by
 obtain ⟨p1,k1,rfl,s1⟩:=qbz ha1
 obtain ⟨p2,k2,p3,k3,p4,k4,rfl,s2,s3,s4⟩:=qax ha2
 refine zV 153 Tryz.func177 rfl fun h=>zSR (qv h rfl rfl fun w1 bb1 h=>qv h rfl rfl fun w2 bb2 h=>X0 4 rfl ?_)
 obtain ⟨KF2,hKF2,o7,hF,hK7⟩:=bindE hF
 refine qba (fun e w'=>∃ (b1:Bool),KF2 b1=some r∧e=[(3,.pointer (some ⟨bb2,0,none⟩)),(40,.bool b1)]∧SH w w' [Ch.box bb2 (qaS a_1 p2 p3 p4 k2 k3 k4) 48]) ?_ ?_
 ·refine X1 2 1 h rfl (zcB h hF (qo0 (h.old ha1)) rfl fun r4 w21 h hF=>zp2 rfl (qk (t:=17) hF rfl ?_ ?_))<;>intro hF
  ·refine X0 24 rfl ?_
   replace h:=h.pick [0] rfl
   obtain rfl:=qb hF
   exact rG ⟨_,hK7,rfl,h⟩ rfl
  refine X1 10 0 h rfl (qk (t:=23) hF rfl ?_ ?_)<;>intro hF
  ·refine X0 18 rfl ?_
   replace h:=h.pick [0] rfl
   obtain rfl:=qb hF
   exact rG ⟨_,hK7,rfl,h⟩ rfl
  refine X1 10 0 h rfl (qk (t:=29) hF rfl ?_ ?_)<;>intro hF
  ·refine X0 12 rfl ?_
   replace h:=h.pick [0] rfl
   obtain rfl:=qb hF
   exact rG ⟨_,hK7,rfl,h⟩ rfl
  refine X1 10 0 h rfl (qk (t:=35) hF rfl ?_ ?_)<;>intro hF
  ·refine X0 6 rfl ?_
   replace h:=h.pick [0] rfl
   obtain rfl:=qb hF
   exact rG ⟨_,hK7,rfl,h⟩ rfl
  refine X2 5 1 0 h rfl (zcB h hF (qpM (h.old ha1) (h.old ha2)) rfl fun r5 w22 h hF=>X0 4 rfl ?_)
  replace h:=h.pick [0] rfl
  obtain rfl:=qb hF
  exact rG ⟨_,hK7,rfl,h⟩ rfl
 rintro e7 w23 ⟨b1,hF,rfl,h⟩
 subst hKF2
 refine qh rfl hF ?_ ?_<;>intro hF
 ·exact X0 4 rfl (rb h hF rfl)
 refine zKSR (qI qa [] _ ([]:List ByteArray) h rfl rfl rfl rfl rfl rfl rfl rfl rfl trivial rfl fun w3 p5 S1 h=>X0 7 rfl ?_)
 obtain ⟨o1,hF,hK1⟩:=qc hF
 refine qm (rL (fun m e w'=>∃ (S2:Nat→Prop) (p6:Option Addr) (ln1:Nat) (k5:Nat) (x1:(List ByteArray)) (i1:Int),qde a_1 m x1 i1=some o1∧e=[(3,.pointer (some ⟨bb2,0,none⟩)),(5,.slice p6 ln1 k5),(6,.int .i64 i1)]∧SH w w' [Ch.own S2 (x1:List ByteArray) [.slice p6 ln1 k5],Ch.box bb2 (qaS a_1 p2 p3 p4 k2 k3 k4) 48]) n ⟨_,_,_,_,_,_,hF,rfl,h⟩ rfl ?_)
 rintro m1 e1 w4 ⟨S2,p6,ln1,k5,x1,i1,hF,rfl,h⟩
 obtain rfl:=(h.sl 0 rfl).2
 rcases m1 with _|m1
 ·cases hF
 refine X1 9 1 h rfl (qh rfl hF ?_ ?_)<;>intro hF
 ·refine X1 8 1 h rfl ?_
  obtain ⟨y1,hy1,hF,he1,b2,_,q1,cs3,hp1,hq1,hr1,hc3⟩:=s2.ix hF
  obtain ⟨p7,k6,rfl,s5⟩:=qP hr1
  refine zxe hp1 hq1 he1 rfl (zp1 rfl (zc 0 (hc3.below h.below) rfl (qI qa [.tmp 55] _ ([y1.Bb]:List ByteArray) h rfl rfl rfl rfl rfl rfl rfl rfl rfl ⟨rfl,trivial⟩ rfl fun w5 p8 S3 h=>?_)))
  obtain ⟨x2,hx1,hF⟩:=qc hF
  obtain ⟨g1,hx1⟩:=qas hx1
  refine qck qa 1 h rfl (h.sl 0 rfl).1 (h.sl 0 rfl).2 rfl rfl rfl rfl rfl rfl rfl rfl rfl g1 hx1 rfl fun w6 p9 k7 S4 h=>X0 8 rfl ?_
  replace h:=h.pick [1,2] rfl
  exact rK ⟨_,_,_,_,_,_,hF,rfl,h⟩ rfl
 refine qq rfl ?_
 obtain rfl:=qb hF;replace hF:=hK1
 refine zSR (qI qa [] _ ([]:List ByteArray) h rfl rfl rfl rfl rfl rfl rfl rfl rfl trivial rfl fun w7 p10 S5 h=>X0 7 rfl ?_)
 obtain ⟨o2,hF,hK2⟩:=qc hF
 refine qm (rL (fun m e w'=>∃ (S6:Nat→Prop) (p11:Option Addr) (ln2:Nat) (k8:Nat) (x3:(List ByteArray)) (i2:Int),qdk a_1 m x3 i2=some o2∧e=[(3,.pointer (some ⟨bb2,0,none⟩)),(5,.slice p6 x1.length k5),(7,.slice p11 ln2 k8),(8,.int .i64 i2)]∧SH w w' [Ch.own S6 (x3:List ByteArray) [.slice p11 ln2 k8],Ch.own S2 (x1:List ByteArray) [.slice p6 x1.length k5],Ch.box bb2 (qaS a_1 p2 p3 p4 k2 k3 k4) 48]) n ⟨_,_,_,_,_,_,hF,rfl,h⟩ rfl ?_)
 rintro m2 e2 w8 ⟨S6,p11,ln2,k8,x3,i2,hF,rfl,h⟩
 obtain rfl:=(h.sl 0 rfl).2
 rcases m2 with _|m2
 ·cases hF
 refine X1 9 2 h rfl (qh rfl hF ?_ ?_)<;>intro hF
 ·refine X1 8 2 h rfl ?_
  obtain ⟨y2,hy2,hF,he2,b3,_,q2,cs4,hp2,hq2,hr2,hc5⟩:=s4.ix hF
  obtain rfl:=qaV hr2
  refine zxe hp2 hq2 he2 rfl (zp1 rfl (zc 0 (hc5.below h.below) rfl (qI qa [.tmp 72] _ ([y2.Bb]:List ByteArray) h rfl rfl rfl rfl rfl rfl rfl rfl rfl ⟨rfl,trivial⟩ rfl fun w9 p12 S7 h=>?_)))
  obtain ⟨x4,hx2,hF⟩:=qc hF
  obtain ⟨g2,hx2⟩:=qas hx2
  refine qck qa 1 h rfl (h.sl 0 rfl).1 (h.sl 0 rfl).2 rfl rfl rfl rfl rfl rfl rfl rfl rfl g2 hx2 rfl fun w10 p13 k9 S8 h=>X0 8 rfl ?_
  replace h:=h.pick [1,2,3] rfl
  exact rK ⟨_,_,_,_,_,_,hF,rfl,h⟩ rfl
 refine qq rfl ?_
 obtain rfl:=qb hF;replace hF:=hK2
 refine zSS ?_
 obtain ⟨KF1,hKF1,o6,hF,hK6⟩:=bindE hF
 refine qba (fun e w'=>∃ (b4:Bool),KF1 b4=some r∧e=[(3,.pointer (some ⟨bb2,0,none⟩)),(88,.bool b4)]∧SH w w' [Ch.box bb2 (qaS a_1 p2 p3 p4 k2 k3 k4) 48]) ?_ ?_
 ·refine X0 2 rfl (zcB h hF (qjf (h.own 1 rfl)) rfl fun r1 w17 h hF=>zp2 rfl (qk (t:=78) hF rfl ?_ ?_))<;>intro hF
  ·refine X0 11 rfl ?_
   replace h:=h.pick [2] rfl
   obtain rfl:=qb hF
   exact rG ⟨_,hK6,rfl,h⟩ rfl
  refine X0 3 rfl (zcB h hF (qjf (h.own 0 rfl)) rfl fun r2 w18 h hF=>X0 4 rfl (qk (t:=83) hF rfl ?_ ?_))<;>intro hF
  ·refine X0 6 rfl ?_
   replace h:=h.pick [2] rfl
   obtain rfl:=qb hF
   exact rG ⟨_,hK6,rfl,h⟩ rfl
  refine X1 5 2 h rfl (zcB h hF (qjf ⟨_,_,rfl,(h.oldS s3)⟩) rfl fun r3 w19 h hF=>X0 4 rfl ?_)
  replace h:=h.pick [2] rfl
  obtain rfl:=qb hF
  exact rG ⟨_,hK6,rfl,h⟩ rfl
 rintro e6 w20 ⟨b4,hF,rfl,h⟩
 subst hKF1
 refine qh rfl hF ?_ ?_<;>intro hF
 ·exact X0 4 rfl (rb h hF rfl)
 refine X1 6 0 h rfl ?_
 obtain ⟨x5,hx3,hF⟩:=qc hF
 obtain ⟨g3,g4,hx3⟩:=qU hx3
 refine qam qa Int h rfl rfl rfl rfl rfl rfl rfl rfl rfl g3 g4 hx3 rfl fun w11 S9 p14 h=>X0 7 rfl ?_
 obtain ⟨o3,hF,hK3⟩:=qc hF
 refine qm (rL (fun m e w'=>∃ (x6:(List Int)) (i3:Int),qdg a_1 m x6 i3=some o3∧e=[(3,.pointer (some ⟨bb2,0,none⟩)),(9,.slice p14 x5.length x5.length),(10,.int .i64 i3)]∧SH w w' [Ch.own S9 (x6:List Int) [.slice p14 x5.length x5.length],Ch.box bb2 (qaS a_1 p2 p3 p4 k2 k3 k4) 48]) n ⟨_,_,hF,rfl,h⟩ rfl ?_)
 rintro m3 e3 w12 ⟨x6,i3,hF,rfl,h⟩
 rcases m3 with _|m3
 ·cases hF
 refine X1 9 1 h rfl (qh rfl hF ?_ ?_)<;>intro hF
 ·refine X1 8 1 h rfl ?_
  obtain ⟨y3,hy3,hF,he3,b5,_,q3,cs5,hp3,hq3,hr3,hc8⟩:=s2.ix hF
  obtain ⟨p15,k10,rfl,s6⟩:=qP hr3
  refine zxe hp3 hq3 he3 rfl (zp1 rfl (zc 2 (hc8.below h.below) rfl (X0 8 rfl ?_)))
  obtain ⟨y4,hy4,hF,he4,b6,_,q4,cs6,hp4,hq4,rfl,hc9⟩:=s6.ix hF
  refine zxe hp4 hq4 he4 rfl (zc 0 (hc9.below h.below) rfl ?_)
  obtain ⟨y5,hy5,hF,he5,b7,_,q5,cs7,hp5,hq5,rfl,hc10⟩:=(h.sl 0 rfl).1.ix hF
  refine zx hp5 hq5 ⟨he5.1,qC he5.2.1 (h.sl 0 rfl).2⟩ rfl (zc 0 hc10 rfl (zp1 rfl ?_))
  obtain ⟨y6,hy6,hF,he6,b8,_,q6,cs8,hp6,hq6,rfl,hc11⟩:=(h.sl 0 rfl).1.ix hF
  exact zx hp6 hq6 ⟨he6.1,qC he6.2.1 (h.sl 0 rfl).2⟩ rfl (qay qa 0 0 (W64 (y5+1)) h rfl hy6 hp6 hq6 rfl hc11 rfl rfl rfl rfl rfl rfl rfl fun w13 h=>X0 7 rfl (rK ⟨_,_,hF,rfl,h⟩ rfl))
 refine qq rfl ?_
 obtain rfl:=qb hF;replace hF:=hK3
 refine X0 5 rfl ?_
 obtain ⟨o4,hF,hK4⟩:=qc hF
 refine qm (rL (fun m e w'=>∃ (x7:(List Int)) (i4:Int),qcw a_1 m x7 i4=some o4∧e=[(3,.pointer (some ⟨bb2,0,none⟩)),(9,.slice p14 x5.length x5.length),(12,.int .i64 i4)]∧SH w w' [Ch.own S9 (x7:List Int) [.slice p14 x5.length x5.length],Ch.box bb2 (qaS a_1 p2 p3 p4 k2 k3 k4) 48]) n ⟨_,_,hF,rfl,h⟩ rfl ?_)
 rintro m4 e4 w14 ⟨x7,i4,hF,rfl,h⟩
 rcases m4 with _|m4
 ·cases hF
 refine X1 9 1 h rfl (qh rfl hF ?_ ?_)<;>intro hF
 ·refine X1 8 1 h rfl ?_
  obtain ⟨y7,hy7,hF,he7,b9,_,q7,cs9,hp7,hq7,hr7,hc13⟩:=s4.ix hF
  obtain rfl:=qaV hr7
  refine zxe hp7 hq7 he7 rfl (zp1 rfl (zc 1 (hc13.below h.below) rfl (X0 2 rfl (qh rfl hF ?_ ?_))))<;>intro hF
  ·refine X1 5 1 h rfl ?_
   obtain ⟨y8,hy8,hF,he8,b10,_,q8,cs10,hp8,hq8,hr8,hc15⟩:=s4.ix hF
   obtain rfl:=qaV hr8
   refine zxe hp8 hq8 he8 rfl (zp1 rfl (zc 2 (hc15.below h.below) rfl ?_))
   obtain ⟨y9,hy9,hF,he9,b11,_,q9,cs11,hp9,hq9,rfl,hc16⟩:=(h.sl 0 rfl).1.ix hF
   refine zx hp9 hq9 ⟨he9.1,qC he9.2.1 (h.sl 0 rfl).2⟩ rfl (zc 0 hc16 rfl (zp1 rfl ?_))
   obtain ⟨y10,hy10,hF,he10,b12,_,q10,cs12,hp10,hq10,rfl,hc17⟩:=(h.sl 0 rfl).1.ix hF
   exact zx hp10 hq10 ⟨he10.1,qC he10.2.1 (h.sl 0 rfl).2⟩ rfl (qay qa 0 0 (W64 (y9+1)) h rfl hy10 hp10 hq10 rfl hc17 rfl rfl rfl rfl rfl rfl rfl fun w15 h=>X0 7 rfl (rK ⟨_,_,hF,rfl,h⟩ rfl))
  exact X0 7 rfl (rK ⟨_,_,hF,rfl,h⟩ rfl)
 refine qq rfl ?_
 obtain rfl:=qb hF;replace hF:=hK4
 refine X0 5 rfl ?_
 obtain ⟨o5,hF,hK5⟩:=qc hF
 refine qm ?_
 replace h:=h.pick [0] rfl
 refine rL (fun m e w'=>∃ (i5:Int),qeh x5 x7 m i5=some o5∧e=[(9,.slice p14 x5.length x5.length),(13,.int .i64 i5)]∧SH w w' [Ch.own S9 (x7:List Int) [.slice p14 x5.length x5.length]]) n ⟨_,hF,rfl,h⟩ rfl ?_
 rintro m5 e5 w16 ⟨i5,hF,rfl,h⟩
 rcases m5 with _|m5
 ·cases hF
 refine X0 8 rfl (qh rfl hF ?_ ?_)<;>intro hF
 ·refine X0 7 rfl ?_
  obtain ⟨y11,hy11,hF,he11,b13,_,q11,cs13,hp11,hq11,rfl,hc19⟩:=(h.sl 0 rfl).1.ix hF
  refine zx hp11 hq11 ⟨he11.1,qC he11.2.1 (h.sl 0 rfl).2⟩ rfl (zc 0 hc19 rfl (X0 2 rfl (qh rfl hF ?_ ?_)))<;>intro hF
  ·refine X0 4 rfl ?_
   obtain rfl:=qb hF;replace hF:=hK5
   exact rb h hF rfl
  exact X0 7 rfl (rK ⟨_,hF,rfl,h⟩ rfl)
 refine qq rfl ?_
 obtain rfl:=qb hF;replace hF:=hK5
 exact X0 4 rfl (rb h hF rfl)
def qfK (a_0:qD):Nat→Int→Option (Flow Bool Int)
 | 0,_=>none
 | n+1,i2 =>
  bif decide (i2<(a_0.Bl.length:Int)) then
   (idx a_0.Bl i2).bind fun y7 =>
   (qav n y7 0 (W64 ((a_0.Am.length:Int)-1))).bind fun r5 =>
   bif (!r5) then some (.ret false) else
   qfK a_0 n (W64 (i2+1))
  else
   some (.nxt i2)
def qcN (a_0:qD):Nat→Int→Option (Flow Bool Int)
 | 0,_=>none
 | n+1,i1 =>
  bif decide (i1<(a_0.Am.length:Int)) then
   (
    (idx a_0.Bs i1).bind fun y5 =>
    (qav n y5 0 500).bind fun r3 =>
    bif (!r3) then some true else
    (idx a_0.Bw i1).bind fun y6 =>
    (qav n y6 0 1000).bind fun r4 =>
    some (!r4)).bind fun b2 =>
   bif b2 then some (.ret false) else
   bif (i1==0) then
    (idx a_0.Am i1).bind fun y1 =>
    bif (y1 != (-1)) then some (.ret false) else
    (idx a_0.Bw i1).bind fun y2 =>
    bif (y2 != 0) then some (.ret false) else
    bif decide (i1 > 0) then
     (idx a_0.Am i1).bind fun y3 =>
     (qav n y3 0 (W64 (i1-1))).bind fun r1 =>
     bif (!r1) then some (.ret false) else
     qcN a_0 n (W64 (i1+1))
    else
     qcN a_0 n (W64 (i1+1))
   else
    bif decide (i1 > 0) then
     (idx a_0.Am i1).bind fun y4 =>
     (qav n y4 0 (W64 (i1-1))).bind fun r2 =>
     bif (!r2) then some (.ret false) else
     qcN a_0 n (W64 (i1+1))
    else
     qcN a_0 n (W64 (i1+1))
  else
   some (.nxt i1)
def qlF (n:Nat) (a_0:qD) (a_1:Int):Option Bool :=
 (
  bif decide ((a_0.Am.length:Int)<1) then some true else
  bif decide ((a_0.Am.length:Int) > 8) then some true else
  bif ((a_0.Bw.length:Int) != (a_0.Am.length:Int)) then some true else
  bif ((a_0.Bs.length:Int) != (a_0.Am.length:Int)) then some true else
  some ((a_0.Bl.length:Int) != a_1)).bind fun b1 =>
 bif b1 then some false else
 (qcN a_0 n 0).bind fun o=>match o with
 | .ret r=>some r
 | .nxt _ =>
  (qfK a_0 n 0).bind fun o=>match o with
  | .ret r=>some r
  | .nxt _ =>
   some true
theorem qrg {a_0:qD} {a_1:Int} (ha1:GoT.R w (old w) a_0 cs1) {r:Bool} (hF:qlF n a_0 a_1=some r):RetV Tryz.prog 178 [GoT.v qD cs1,.int .i64 a_1] w r:=by
 obtain ⟨p1,k1,p2,k2,p3,k3,p4,k4,rfl,s1,s2,s3,s4⟩:=qaM ha1
 refine zV 108 Tryz.func178 rfl fun h=>zSR (qv h rfl rfl fun w1 bb1 h=>X1 11 0 h rfl ?_)
 obtain ⟨KF2,hKF2,o4,hF,hK4⟩:=bindE hF
 refine qba (fun e w'=>∃ (b1:Bool),KF2 b1=some r∧e=[(2,.pointer (some ⟨bb1,0,none⟩)),(5,.int .i64 (a_0.Am.length:Int)),(37,.bool b1)]∧SH w w' [Ch.box bb1 (qgN a_0 p1 p2 p3 p4 k1 k2 k3 k4) 186]) ?_ ?_
 ·refine X0 4 rfl (qk (t:=13) hF rfl ?_ ?_)<;>intro hF
  ·refine X0 25 rfl ?_
   obtain rfl:=qb hF
   exact rG ⟨_,hK4,rfl,h⟩ rfl
  refine X0 6 rfl (qk (t:=17) hF rfl ?_ ?_)<;>intro hF
  ·refine X0 21 rfl ?_
   obtain rfl:=qb hF
   exact rG ⟨_,hK4,rfl,h⟩ rfl
  refine X1 12 0 h rfl (qk (t:=24) hF rfl ?_ ?_)<;>intro hF
  ·refine X0 14 rfl ?_
   obtain rfl:=qb hF
   exact rG ⟨_,hK4,rfl,h⟩ rfl
  refine X1 12 0 h rfl (qk (t:=31) hF rfl ?_ ?_)<;>intro hF
  ·refine X0 7 rfl ?_
   obtain rfl:=qb hF
   exact rG ⟨_,hK4,rfl,h⟩ rfl
  refine X1 12 0 h rfl ?_
  obtain rfl:=qb hF
  exact rG ⟨_,hK4,rfl,h⟩ rfl
 rintro e4 w10 ⟨b1,hF,rfl,h⟩
 subst hKF2
 refine qh rfl hF ?_ ?_<;>intro hF
 ·exact X0 4 rfl (rb h hF rfl)
 refine X0 6 rfl ?_
 obtain ⟨o1,hF,hK1⟩:=qc hF
 refine qm (rL (fun m e w'=>∃ (i1:Int),qcN a_0 m i1=some o1∧e=[(2,.pointer (some ⟨bb1,0,none⟩)),(5,.int .i64 (a_0.Am.length:Int)),(6,.int .i64 i1)]∧SH w w' [Ch.box bb1 (qgN a_0 p1 p2 p3 p4 k1 k2 k3 k4) 186]) n ⟨_,hF,rfl,h⟩ rfl ?_)
 rintro m1 e1 w2 ⟨i1,hF,rfl,h⟩
 rcases m1 with _|m1
 ·cases hF
 refine X0 7 rfl (qh rfl hF ?_ ?_)<;>intro hF
 ·refine X0 5 rfl ?_
  obtain ⟨KF1,hKF1,o2,hF,hK2⟩:=bindE hF
  refine qba (fun e w'=>∃ (b2:Bool),KF1 b2=some o1∧e=[(2,.pointer (some ⟨bb1,0,none⟩)),(5,.int .i64 (a_0.Am.length:Int)),(6,.int .i64 i1),(58,.bool b2)]∧SH w w' [Ch.box bb1 (qgN a_0 p1 p2 p3 p4 k1 k2 k3 k4) 186]) ?_ ?_
  ·refine X1 4 0 h rfl ?_
   obtain ⟨y5,hy5,hF,he5,b7,_,q5,cs6,hp5,hq5,rfl,hc10⟩:=s3.ix hF
   refine zxe hp5 hq5 he5 rfl (zc 0 (hc10.below h.below) rfl (zcB h hF qaj rfl fun r3 w5 h hF=>zp2 rfl (qk (t:=50) hF rfl ?_ ?_)))<;>intro hF
   ·refine X0 9 rfl ?_
    obtain rfl:=qb hF
    exact rG ⟨_,hK2,rfl,h⟩ rfl
   refine X1 7 0 h rfl ?_
   obtain ⟨y6,hy6,hF,he6,b8,_,q6,cs7,hp6,hq6,rfl,hc11⟩:=s2.ix hF
   refine zxe hp6 hq6 he6 rfl (X0 1 rfl (zc 0 (hc11.below h.below) rfl (X0 1 rfl (zcB h hF qaj rfl fun r4 w6 h hF=>X0 4 rfl ?_))))
   obtain rfl:=qb hF
   exact rG ⟨_,hK2,rfl,h⟩ rfl
  rintro e2 w7 ⟨b2,hF,rfl,h⟩
  subst hKF1
  refine qh rfl hF ?_ ?_<;>intro hF
  ·refine X0 4 rfl ?_
   obtain rfl:=qb hF;replace hF:=hK1
   exact rb h hF rfl
  refine X0 6 rfl (qk (t:=61) hF rfl ?_ ?_)<;>intro hF
  ·refine X1 7 0 h rfl ?_
   obtain ⟨y1,hy1,hF,he1,b3,_,q1,cs2,hp1,hq1,rfl,hc4⟩:=s1.ix hF
   refine zxe hp1 hq1 he1 rfl (X0 1 rfl (zc 0 (hc4.below h.below) rfl (X0 4 rfl (qk (t:=68) hF rfl ?_ ?_))))<;>intro hF
   ·refine X0 25 rfl (qbU rfl rfl (X0 4 rfl ?_))
    obtain rfl:=qb hF;replace hF:=hK1
    exact rb h hF rfl
   refine X1 7 0 h rfl ?_
   obtain ⟨y2,hy2,hF,he2,b4,_,q2,cs3,hp2,hq2,rfl,hc5⟩:=s2.ix hF
   refine zxe hp2 hq2 he2 rfl (X0 1 rfl (zc 0 (hc5.below h.below) rfl (X0 6 rfl (qk (t:=77) hF rfl ?_ ?_))))<;>intro hF
   ·refine X0 15 rfl (qbU rfl rfl (X0 4 rfl ?_))
    obtain rfl:=qb hF;replace hF:=hK1
    exact rb h hF rfl
   refine X0 6 rfl (qk (t:=80) hF rfl ?_ ?_)<;>intro hF
   ·refine X1 7 0 h rfl ?_
    obtain ⟨y3,hy3,hF,he3,b5,_,q3,cs4,hp3,hq3,rfl,hc6⟩:=s1.ix hF
    refine zxe hp3 hq3 he3 rfl (X0 1 rfl (zc 0 (hc6.below h.below) rfl (X0 5 rfl (zcB h hF qaj rfl fun r1 w3 h hF=>X0 6 rfl (qh rfl hF ?_ ?_)))))<;>intro hF
    ·refine X0 4 rfl ?_
     obtain rfl:=qb hF;replace hF:=hK1
     exact rb h hF rfl
    exact X0 7 rfl (rK ⟨_,hF,rfl,h⟩ rfl)
   exact X0 13 rfl (qbV rfl rfl (X0 7 rfl (rK ⟨_,hF,rfl,h⟩ rfl)))
  refine X0 22 rfl (qk (t:=80) hF rfl ?_ ?_)<;>intro hF
  ·refine X1 7 0 h rfl ?_
   obtain ⟨y4,hy4,hF,he4,b6,_,q4,cs5,hp4,hq4,rfl,hc8⟩:=s1.ix hF
   refine zxe hp4 hq4 he4 rfl (X0 1 rfl (zc 0 (hc8.below h.below) rfl (X0 5 rfl (zcB h hF qaj rfl fun r2 w4 h hF=>X0 6 rfl (qh rfl hF ?_ ?_)))))<;>intro hF
   ·refine X0 4 rfl ?_
    obtain rfl:=qb hF;replace hF:=hK1
    exact rb h hF rfl
   exact X0 7 rfl (rK ⟨_,hF,rfl,h⟩ rfl)
  exact X0 13 rfl (qbV rfl rfl (X0 7 rfl (rK ⟨_,hF,rfl,h⟩ rfl)))
 refine qq rfl ?_
 obtain rfl:=qb hF;replace hF:=hK1
 refine X0 5 rfl ?_
 obtain ⟨o3,hF,hK3⟩:=qc hF
 refine qm (rL (fun m e w'=>∃ (i2:Int),qfK a_0 m i2=some o3∧e=[(2,.pointer (some ⟨bb1,0,none⟩)),(5,.int .i64 (a_0.Am.length:Int)),(7,.int .i64 i2)]∧SH w w' [Ch.box bb1 (qgN a_0 p1 p2 p3 p4 k1 k2 k3 k4) 186]) n ⟨_,hF,rfl,h⟩ rfl ?_)
 rintro m2 e3 w8 ⟨i2,hF,rfl,h⟩
 rcases m2 with _|m2
 ·cases hF
 refine X1 9 0 h rfl (qh rfl hF ?_ ?_)<;>intro hF
 ·refine X1 8 0 h rfl ?_
  obtain ⟨y7,hy7,hF,he7,b9,_,q7,cs8,hp7,hq7,rfl,hc13⟩:=s4.ix hF
  refine zxe hp7 hq7 he7 rfl (zc 0 (hc13.below h.below) rfl (zp2 rfl (zcB h hF qaj rfl fun r5 w9 h hF=>X0 2 rfl (qh rfl hF ?_ ?_))))<;>intro hF
  ·refine X0 4 rfl ?_
   obtain rfl:=qb hF;replace hF:=hK3
   exact rb h hF rfl
  exact X0 7 rfl (rK ⟨_,hF,rfl,h⟩ rfl)
 refine qq rfl ?_
 obtain rfl:=qb hF;replace hF:=hK3
 exact X0 4 rfl (rb h hF rfl)
def qeT (b:qg):Nat→Int→Option (Flow Bool Int)
 | 0,_=>none
 | n+1,i1 =>
  bif decide (i1<(b.Ac.length:Int)) then
   (idx b.Ac i1).bind fun y1 =>
   (qgx n (⟨b.Ab.Aa,b.Ab.Ak,b.Ab.Aj⟩:qd) i1).bind fun r1 =>
   (qlF n y1 (r1.length:Int)).bind fun r2 =>
   bif (!r2) then some (.ret false) else
   qeT b n (W64 (i1+1))
  else
   some (.nxt i1)
def qhj (n:Nat) (b:qg):Option Bool :=
 (
  (qjn n (⟨b.Av.Ar⟩:qn) (⟨b.Ab.Aa,b.Ab.Ak,b.Ab.Aj⟩:qd)).bind fun r3 =>
  bif (!r3) then some true else
  some ((b.Ac.length:Int) != (b.Ab.Ak.length:Int))).bind fun b1 =>
 bif b1 then some false else
 (qeT b n 0).bind fun o=>match o with
 | .ret r=>some r
 | .nxt _ =>
  some true
theorem qmS {b:qg} (ha1:GoT.R w (old w) b cs1) {r:Bool} (hF:qhj n b=some r):RetV Tryz.prog 143 [GoT.v qg cs1] w r:=by
 obtain ⟨p1,k1,p2,k2,p3,k3,p4,k4,p5,k5,rfl,s1,s2,s3,s4,s5⟩:=qab ha1
 refine zV 39 Tryz.func143 rfl fun h=>zSR (qv h rfl rfl fun w1 bb1 h=>X0 4 rfl ?_)
 obtain ⟨KF1,hKF1,o2,hF,hK2⟩:=bindE hF
 refine qba (fun e w'=>∃ (b1:Bool),KF1 b1=some r∧e=[(1,.pointer (some ⟨bb1,0,none⟩)),(19,.bool b1)]∧SH w w' [Ch.box bb1 (qaZ b p1 p2 p3 p4 p5 k1 k2 k3 k4 k5) 51]) ?_ ?_
 ·refine X2 5 0 0 h rfl (zcB h hF (qpQ (qd6 _ (h.oldS s1)) (qau _ (h.oldS s2) (h.oldS s3) (h.oldS s4))) rfl fun r3 w6 h hF=>zp2 rfl (qk (t:=10) hF rfl ?_ ?_))<;>intro hF
  ·refine X0 10 rfl ?_
   obtain rfl:=qb hF
   exact rG ⟨_,hK2,rfl,h⟩ rfl
  refine X2 18 0 0 h rfl ?_
  obtain rfl:=qb hF
  exact rG ⟨_,hK2,rfl,h⟩ rfl
 rintro e2 w7 ⟨b1,hF,rfl,h⟩
 subst hKF1
 refine qh rfl hF ?_ ?_<;>intro hF
 ·exact X0 4 rfl (rb h hF rfl)
 refine X0 6 rfl ?_
 obtain ⟨o1,hF,hK1⟩:=qc hF
 refine qm (rL (fun m e w'=>∃ (i1:Int),qeT b m i1=some o1∧e=[(1,.pointer (some ⟨bb1,0,none⟩)),(3,.int .i64 i1)]∧SH w w' [Ch.box bb1 (qaZ b p1 p2 p3 p4 p5 k1 k2 k3 k4 k5) 51]) n ⟨_,hF,rfl,h⟩ rfl ?_)
 rintro m1 e1 w2 ⟨i1,hF,rfl,h⟩
 rcases m1 with _|m1
 ·cases hF
 refine X1 9 0 h rfl (qh rfl hF ?_ ?_)<;>intro hF
 ·refine X0 4 rfl (rA [] [0] h rfl fun w3 h=>M1 7 [0,1,2] 0 (h.pick [0] rfl) rfl ?_)
  obtain ⟨y1,hy1,hF,he1,b2,_,q1,cs2,hp1,hq1,hr1,hc3⟩:=s5.ix hF
  obtain ⟨p6,k6,p7,k7,p8,k8,p9,k9,rfl,s6,s7,s8,s9⟩:=qaM hr1
  refine Ae 3 15 hp1 hq1 he1 (h.pick [0] rfl) rfl (Al 4 31 0 hc3 (h.pick [0] rfl) rfl (M1 255 [5,6,7] 0 (h.pick [0] rfl) rfl (Ao 8 511 rfl (zcL h hF (qjk (qau _ (h.oldS s2) (h.oldS s3) (h.oldS s4))) rfl fun r1 w4 S1 p10 k10 h hF=>G0 1023 [9] (h.pick [1] rfl) rfl (Ao 10 2047 rfl (zcB h hF (qrg (qkC y1 (h.oldS s6) (h.oldS s7) (h.oldS s8) (h.oldS s9))) rfl fun r2 w5 h hF=>G0 4095 [11] (h.pick [1] rfl) rfl (Ad (qh rfl hF ?_ ?_))))))))<;>intro hF
  ·refine X0 4 rfl ?_
   obtain rfl:=qb hF;replace hF:=hK1
   exact rb h hF rfl
  refine X0 7 rfl ?_
  replace h:=h.pick [1] rfl
  exact rK ⟨_,hF,rfl,h⟩ rfl
 refine qq rfl ?_
 obtain rfl:=qb hF;replace hF:=hK1
 exact X0 4 rfl (rb h hF rfl)
def qaN (_:Nat) (x:Int) (low:Int) (high:Int):Option Bool :=
 bif decide (x ≥ low) then some (decide (x≤high)) else
 some false
theorem qaz {x:Int} {low:Int} {high:Int}  {r:Bool} (hF:qaN n x low high=some r):RetV Tryz.prog 159 [.int .i64 x,.int .i64 low,.int .i64 high] w r:=by
 refine zV 15 Tryz.func159 rfl fun h=>X0 10 rfl (qk (t:=10) hF rfl ?_ ?_)<;>intro hF
 ·exact X0 9 rfl (rb h hF rfl)
 exact X0 6 rfl (rb h hF rfl)
def qiK (_:Nat) (s cutset:ByteArray):Option ByteArray :=
 if s.size≤9223372036854775807∧cutset.size<4294967281∧cutset.data.toList.all (fun b=>decide (b.toNat<128))=true then some ⟨(Lib.trimS s.data.toList cutset.data.toList).toArray⟩ else none
theorem qqt {s cutset:ByteArray} {r:ByteArray} (hF:qiK n s cutset=some r):RetV Tryz.prog 246 [.string s,.string cutset] w r:=by
 unfold qiK at hF
 split at hF
 ·rename_i hh
  obtain rfl:=qb hF
  refine (Tryz.strings_Trim_any s cutset w hh.1 hh.2.1 hh.2.2).mono ?_
  rintro e w' ⟨rfl,hB⟩
  exact ⟨_,rfl,hB,[.string _],rfl,qvu _ _⟩
 cases hF
def qgH (_:Nat) (s:ByteArray) (c:(IntK .u8)):Option Int :=
 some (Lib.indexByte s.data.toList c.val.toNat.toUInt8)
theorem qnk {s:ByteArray} {c:(IntK .u8)} {r:Int} (hF:qgH n s c=some r):RetV Tryz.prog 247 [.string s,.int .u8 c.val] w r:=by
 obtain rfl:=qb hF
 refine (Tryz.strings_IndexByte s c.val w).mono ?_
 rintro e w' ⟨rfl,rfl⟩
 exact ⟨_,rfl,Below.refl _ _,[.int .i64 _],rfl,qxy _ _⟩
def qin (n:Nat) (s:ByteArray):Option Bool :=
 (qaN n (s.size:Int) 1 8).bind fun r1 =>
 bif r1 then
  (qiK n s (⟨#[97,98,99,100,101,102,103,104,105,106,107,108,109,110,111,112,113,114,115,116,117,118,119,120,121,122,48,49,50,51,52,53,54,55,56,57]⟩:ByteArray)).bind fun r2 =>
  bif (r2.toList==(⟨#[]⟩:ByteArray).toList) then
   (atS s 0).bind fun y1 =>
   (qgH n (⟨#[97,98,99,100,101,102,103,104,105,106,107,108,109,110,111,112,113,114,115,116,117,118,119,120,121,122]⟩:ByteArray) (⟨y1⟩:IntK .u8)).bind fun r3 =>
   some (decide (r3 ≥ 0))
  else
   some false
 else
  some false
theorem qkP {s:ByteArray}  {r:Bool} (hF:qin n s=some r):RetV Tryz.prog 214 [.string s] w r:=by
 refine zV 17 Tryz.func214 rfl fun h=>X0 8 rfl (zcB h hF qaz rfl fun r1 w1 h hF=>zp1 rfl (qk (t:=6) hF rfl ?_ ?_))<;>intro hF
 ·refine X0 3 rfl (zcS h hF qqt rfl fun r2 w2 h hF=>X0 4 rfl (qk (t:=11) hF rfl ?_ ?_))<;>intro hF
  ·refine X0 3 rfl ?_
   obtain ⟨y1,hx1,hF⟩:=qc hF
   have g1:=qm6 hx1
   exact r_v (qnu qa g1 rfl rfl rfl rfl) rfl (X0 1 rfl (zcI h hF qnk rfl fun r3 w3 h hF=>X0 5 rfl (rb h hF rfl)))
  exact X0 7 rfl (rb h hF rfl)
 exact X0 12 rfl (rb h hF rfl)
def qbW (s:(List ByteArray)) (v:ByteArray):Nat→Int→Option (Flow Int Int)
 | 0,_=>none
 | n+1,i1 =>
  bif decide (i1<(s.length:Int)) then
   (idx s i1).bind fun y1 =>
   bif (v.toList==y1.toList) then some (.ret i1) else
   qbW s v n (W64 (i1+1))
  else
   some (.nxt i1)
def qfw (n:Nat) (s:(List ByteArray)) (v:ByteArray):Option Int :=
 (qbW s v n 0).bind fun o=>match o with
 | .ret r=>some r
 | .nxt _ =>
  some (-1)
theorem qmM {s:(List ByteArray)} {v:ByteArray} (ha1:GoT.R w (old w) s cs1) {r:Int} (hF:qfw n s v=some r):RetV Tryz.prog 296 [GoT.v (List ByteArray) cs1,.string v] w r:=by
 obtain ⟨p1,k1,rfl,s1⟩:=ha1
 refine zV 19 Tryz.func296 rfl fun h=>X0 11 rfl ?_
 obtain ⟨o1,hF,hK1⟩:=qc hF
 refine qm (rL (fun m e w'=>∃ (i1:Int),qbW s v m i1=some o1∧e=[(0,.slice p1 s.length k1),(1,.string v),(7,.int .i64 (s.length:Int)),(8,.int .i64 i1)]∧SH w w' []) n ⟨_,hF,rfl,h⟩ rfl ?_)
 rintro m1 e1 w1 ⟨i1,hF,rfl,h⟩
 rcases m1 with _|m1
 ·cases hF
 refine X0 5 rfl (qh rfl hF ?_ ?_)<;>intro hF
 ·refine X0 13 rfl ?_
  obtain ⟨y1,hy1,hF,he1,b1,_,q1,cs2,hp1,hq1,rfl,hc2⟩:=s1.ix hF
  refine zxe hp1 hq1 he1 rfl (zc 0 (hc2.below h.below) rfl (X0 2 rfl (qh rfl hF ?_ ?_)))<;>intro hF
  ·refine X0 5 rfl ?_
   obtain rfl:=qb hF;replace hF:=hK1
   exact ri h hF rfl
  exact X0 6 rfl (rK ⟨_,hF,rfl,h⟩ rfl)
 refine qq rfl ?_
 obtain rfl:=qb hF;replace hF:=hK1
 exact X0 4 rfl (ri h hF rfl)
def qea (n:Nat) (s:(List ByteArray)) (v:ByteArray):Option Bool :=
 (qfw n s v).bind fun r1 =>
 some (decide (r1 ≥ 0))
theorem qlh {s:(List ByteArray)} {v:ByteArray} (ha1:GoT.R w (old w) s cs1) {r:Bool} (hF:qea n s v=some r):RetV Tryz.prog 283 [GoT.v (List ByteArray) cs1,.string v] w r:=by
 obtain ⟨p1,k1,rfl,s1⟩:=ha1
 exact zV 9 Tryz.func283 rfl fun h=>X0 8 rfl (zcI h hF (qmM ⟨_,_,rfl,(h.oldS s1)⟩) rfl fun r1 w1 h hF=>X0 3 rfl (rb h hF rfl))
def qef (list:(List ByteArray)):Nat→Int→Option (Flow Bool Int)
 | 0,_=>none
 | n+1,i1 =>
  bif decide (i1<(list.length:Int)) then
   (idx list i1).bind fun y1 =>
   (qin n y1).bind fun r1 =>
   bif (!r1) then some (.ret false) else
   (subS list 0 i1).bind fun x1 =>
   (qea n x1 y1).bind fun r2 =>
   bif r2 then some (.ret false) else
   qef list n (W64 (i1+1))
  else
   some (.nxt i1)
def qee (n:Nat) (list:(List ByteArray)):Option Bool :=
 (qef list n 0).bind fun o=>match o with
 | .ret r=>some r
 | .nxt _ =>
  some true
theorem qfC {list:(List ByteArray)} (ha1:GoT.R w (old w) list cs1) {r:Bool} (hF:qee n list=some r):RetV Tryz.prog 265 [GoT.v (List ByteArray) cs1] w r:=by
 obtain ⟨p1,k1,rfl,s1⟩:=ha1
 refine zV 23 Tryz.func265 rfl fun h=>X0 11 rfl ?_
 obtain ⟨o1,hF,hK1⟩:=qc hF
 refine qm (rL (fun m e w'=>∃ (i1:Int),qef list m i1=some o1∧e=[(0,.slice p1 list.length k1),(5,.slice p1 list.length k1),(6,.int .i64 (list.length:Int)),(7,.int .i64 i1)]∧SH w w' []) n ⟨_,hF,rfl,h⟩ rfl ?_)
 rintro m1 e1 w1 ⟨i1,hF,rfl,h⟩
 rcases m1 with _|m1
 ·cases hF
 refine X0 5 rfl (qh rfl hF ?_ ?_)<;>intro hF
 ·refine X0 6 rfl ?_
  obtain ⟨y1,hy1,hF,he1,b1,_,q1,cs2,hp1,hq1,rfl,hc2⟩:=s1.ix hF
  refine zxe hp1 hq1 he1 rfl (zc 0 (hc2.below h.below) rfl (X0 6 rfl (zcB h hF qkP rfl fun r1 w2 h hF=>zp2 rfl (qk (t:=15) hF rfl ?_ ?_))))<;>intro hF
  ·refine X0 7 rfl (qbU rfl rfl (X0 4 rfl ?_))
   obtain rfl:=qb hF;replace hF:=hK1
   exact rb h hF rfl
  refine X0 5 rfl ?_
  obtain ⟨x1,hx1,hF⟩:=qc hF
  obtain ⟨p2,k2,hp2,hk1,hl1,g1⟩:=qxf (h.oldS s1) hx1
  refine r_v (quw qa rfl rfl rfl (qxw g1 rfl) hp2 hk1 hl1 rfl rfl rfl rfl) rfl ?_
  have s2:=qxz s1 hx1 hp2 hk1
  refine X0 3 rfl (zcB h hF (qlh ⟨_,_,rfl,(h.oldS s2)⟩) rfl fun r2 w3 h hF=>X0 2 rfl (qh rfl hF ?_ ?_))<;>intro hF
  ·refine X0 4 rfl ?_
   obtain rfl:=qb hF;replace hF:=hK1
   exact rb h hF rfl
  exact X0 6 rfl (rK ⟨_,hF,rfl,h⟩ rfl)
 refine qq rfl ?_
 obtain rfl:=qb hF;replace hF:=hK1
 exact X0 4 rfl (rb h hF rfl)
def qcs (_:Nat) (list:(List qal)):Option Int :=
 some (list.length:Int)
theorem qil {list:(List qal)} (ha1:GoT.R w (old w) list cs1) {r:Int} (hF:qcs n list=some r):RetV Tryz.prog 290 [GoT.v (List qal) cs1] w r:=by
 obtain ⟨p1,k1,rfl,s1⟩:=ha1
 exact zV 5 Tryz.func290 rfl fun h=>X0 10 rfl (ri h hF rfl)
def qc0 (list:(List qal)):Nat→(List ByteArray)→Int→Option (Flow Bool ((List ByteArray) × Int))
 | 0,_,_=>none
 | n+1,x1,i1 =>
  bif decide (i1<(list.length:Int)) then
   (idx list i1).bind fun y1 =>
   (appS x1 ([y1.Bb]:List ByteArray)).bind fun x2 =>
   bif (i1==(W64 ((list.length:Int)-1))) then
    bif (y1.Bv != 2) then some (.ret false) else
    bif (y1.Bs != 0) then some (.ret false) else
    bif y1.Br then some (.ret false) else
    qc0 list n x2 (W64 (i1+1))
   else
    bif (y1.Bv != 1) then some (.ret false) else
    (qaN n y1.Bs 0 500).bind fun r1 =>
    bif (!r1) then some (.ret false) else
    qc0 list n x2 (W64 (i1+1))
  else
   some (.nxt (x1,i1))
def qkp (n:Nat) (list:(List qal)):Option Bool :=
 (qc0 list n ([]:List ByteArray) 0).bind fun o=>match o with
 | .ret r=>some r
 | .nxt (x1,_) =>
  (qcs n list).bind fun r2 =>
  (qaN n r2 2 5).bind fun r3 =>
  bif r3 then
   (qee n x1).bind fun r4 =>
   some r4
  else
   some false
theorem qqv {list:(List qal)} (ha1:GoT.R w (old w) list cs1) {r:Bool} (hF:qkp n list=some r):RetV Tryz.prog 280 [GoT.v (List qal) cs1] w r:=by
 obtain ⟨p1,k1,rfl,s1⟩:=ha1
 refine zV 52 Tryz.func280 rfl fun h=>X0 15 rfl ?_
 replace h:=h.nil (α:=ByteArray)
 obtain ⟨o1,hF,hK1⟩:=qc hF
 refine qm (rL (fun m e w'=>∃ (S1:Nat→Prop) (p2:Option Addr) (ln1:Nat) (k2:Nat) (x1:(List ByteArray)) (i1:Int),qc0 list m x1 i1=some o1∧e=[(0,.slice p1 list.length k1),(3,.slice p2 ln1 k2),(6,.slice p1 list.length k1),(7,.int .i64 (list.length:Int)),(8,.int .i64 i1)]∧SH w w' [Ch.own S1 (x1:List ByteArray) [.slice p2 ln1 k2]]) n ⟨_,_,_,_,_,_,hF,rfl,h⟩ rfl ?_)
 rintro m1 e1 w1 ⟨S1,p2,ln1,k2,x1,i1,hF,rfl,h⟩
 obtain rfl:=(h.sl 0 rfl).2
 rcases m1 with _|m1
 ·cases hF
 refine X0 5 rfl (qh rfl hF ?_ ?_)<;>intro hF
 ·refine X0 6 rfl ?_
  obtain ⟨y1,hy1,hF,he1,b1,_,q1,cs2,hp1,hq1,hr1,hc2⟩:=s1.ix hF
  obtain rfl:=qaX hr1
  refine zxe hp1 hq1 he1 rfl (zc 0 (hc2.below h.below) rfl (qp qa h rfl rfl rfl fun w2 bb1 h=>zp1 rfl (zs 0 h rfl fun w3 h=>X1 6 0 h rfl (qI qa [.tmp 15] _ ([y1.Bb]:List ByteArray) h rfl rfl rfl rfl rfl rfl rfl rfl rfl ⟨rfl,trivial⟩ rfl fun w4 p3 S2 h=>?_))))
  obtain ⟨x2,hx1,hF⟩:=qc hF
  obtain ⟨g1,hx1⟩:=qas hx1
  refine qck qa 2 h rfl (h.sl 0 rfl).1 (h.sl 0 rfl).2 rfl rfl rfl rfl rfl rfl rfl rfl rfl g1 hx1 rfl fun w5 p4 k3 S3 h=>X0 10 rfl (qh rfl hF ?_ ?_)<;>intro hF
  ·refine X1 6 1 h rfl (qk (t:=26) hF rfl ?_ ?_)<;>intro hF
   ·refine X0 9 rfl (qbU rfl rfl (X0 4 rfl ?_))
    obtain rfl:=qb hF;replace hF:=hK1
    exact rb h hF rfl
   refine X1 8 1 h rfl (qk (t:=31) hF rfl ?_ ?_)<;>intro hF
   ·refine X0 4 rfl (qbU rfl rfl (X0 4 rfl ?_))
    obtain rfl:=qb hF;replace hF:=hK1
    exact rb h hF rfl
   refine X1 6 1 h rfl (qh rfl hF ?_ ?_)<;>intro hF
   ·refine X0 4 rfl ?_
    obtain rfl:=qb hF;replace hF:=hK1
    exact rb h hF rfl
   refine X0 6 rfl ?_
   replace h:=h.pick [2] rfl
   exact rK ⟨_,_,_,_,_,_,hF,rfl,h⟩ rfl
  refine X1 6 1 h rfl (qk (t:=38) hF rfl ?_ ?_)<;>intro hF
  ·refine X0 6 rfl (qbU rfl rfl (X0 4 rfl ?_))
   obtain rfl:=qb hF;replace hF:=hK1
   exact rb h hF rfl
  refine X1 5 1 h rfl (zcB h hF qaz rfl fun r1 w6 h hF=>X0 4 rfl (qh rfl hF ?_ ?_))<;>intro hF
  ·refine X0 4 rfl ?_
   obtain rfl:=qb hF;replace hF:=hK1
   exact rb h hF rfl
  refine X0 6 rfl ?_
  replace h:=h.pick [2] rfl
  exact rK ⟨_,_,_,_,_,_,hF,rfl,h⟩ rfl
 refine qq rfl ?_
 obtain rfl:=qb hF;replace hF:=hK1
 refine X0 3 rfl (zcI h hF (qil ⟨_,_,rfl,(h.oldS s1)⟩) rfl fun r2 w7 h hF=>zcB h hF qaz rfl fun r3 w8 h hF=>zp1 rfl (qk (t:=48) hF rfl ?_ ?_))<;>intro hF
 ·exact X0 3 rfl (zcB h hF (qfC (h.own 0 rfl)) rfl fun r4 w9 h hF=>X0 3 rfl (rb h hF rfl))
 exact X0 5 rfl (rb h hF rfl)
def qeo (n:Nat) (c:qw):Option Int :=
 (qcs n c.Bd).bind fun r1 =>
 some (W64 (r1-1))
theorem qhy {c:qw} (ha1:GoT.R w (old w) c cs1) {r:Int} (hF:qeo n c=some r):RetV Tryz.prog 294 [GoT.v qw cs1] w r:=by
 obtain ⟨p1,k1,p2,k2,p3,k3,rfl,s1,s2,s3⟩:=qac ha1
 exact zV 7 Tryz.func294 rfl fun h=>zSR (qv h rfl rfl fun w1 bb1 h=>X1 6 0 h rfl (zcI h hF (qil ⟨_,_,rfl,(h.oldS s1)⟩) rfl fun r1 w2 h hF=>X0 3 rfl (ri h hF rfl)))
def qkt (_:Nat) (kind:Int):Option Bool :=
 bif (kind==4) then some true else
 some (kind==5)
theorem qqH {kind:Int}  {r:Bool} (hF:qkt n kind=some r):RetV Tryz.prog 301 [.int .i64 kind] w r:=by
 refine zV 9 Tryz.func301 rfl fun h=>X0 9 rfl (qk (t:=5) hF rfl ?_ ?_)<;>intro hF
 ·exact X0 5 rfl (rb h hF rfl)
 exact X0 7 rfl (rb h hF rfl)
def qhe (n:Nat) (a_n:Int) (v0:Int) (v1:Int):Option Bool :=
 (qaN n a_n v0 v1).bind fun r1 =>
 some (!r1)
theorem qn4 {a_n:Int} {v0:Int} {v1:Int} {p1:Option Addr} (ha1:GoT.R w (old w) (some v0) [.pointer p1]) {p2:Option Addr} (ha2:GoT.R w (old w) (some v1) [.pointer p2]) {r:Bool} (hF:qhe n a_n v0 v1=some r):RetV Tryz.prog 158 [.int .i64 a_n,.pointer p1,.pointer p2] w r:=by
 obtain ⟨b1,o_1,cs1,rfl,-,hr1,hc1⟩:=PtR.get ha1 rfl
 obtain rfl:=hr1
 obtain ⟨b2,o_2,cs2,rfl,-,hr2,hc2⟩:=PtR.get ha2 rfl
 obtain rfl:=hr2
 exact zV 10 Tryz.func158 rfl fun h=>X0 7 rfl (zc 0 (hc1.below h.below) rfl (zc 0 (hc2.below h.below) rfl (zcB h hF qaz rfl fun r1 w1 h hF=>X0 3 rfl (rb h hF rfl))))
def qah (s:(List Int)) (f_0:Int) (f_1:Int):Nat→Int→Option (Flow Int Int)
 | 0,_=>none
 | n+1,i1 =>
  bif decide (i1<(s.length:Int)) then
   (idx s i1).bind fun y1 =>
   (qhe n y1 f_0 f_1).bind fun r1 =>
   bif r1 then some (.ret i1) else
   qah s f_0 f_1 n (W64 (i1+1))
  else
   some (.nxt i1)
def qa0 (n:Nat) (s:(List Int)) (f_0:Int) (f_1:Int):Option Int :=
 (qah s f_0 f_1 n 0).bind fun o=>match o with
 | .ret r=>some r
 | .nxt _ =>
  some (-1)
theorem qf6 {s:(List Int)} {f_0:Int} {f_1:Int} (ha1:GoT.R w (old w) s cs1) {p2:Option Addr} (ha2:GoT.R w (old w) (some f_0) [.pointer p2]) {p3:Option Addr} (ha3:GoT.R w (old w) (some f_1) [.pointer p3]) {r:Int} (hF:qa0 n s f_0 f_1=some r):RetV Tryz.prog 162 [GoT.v (List Int) cs1,.func (.func 158) #[] #[.pointer p2,.pointer p3]] w r:=by
 obtain ⟨p1,k1,rfl,s1⟩:=ha1
 obtain ⟨b1,o_1,cs2,rfl,-,hr1,hc1⟩:=PtR.get ha2 rfl
 obtain rfl:=hr1
 obtain ⟨b2,o_2,cs3,rfl,-,hr2,hc2⟩:=PtR.get ha3 rfl
 obtain rfl:=hr2
 refine zV 19 Tryz.func162 rfl fun h=>X0 11 rfl ?_
 obtain ⟨o1,hF,hK1⟩:=qc hF
 refine qm (rL (fun m e w'=>∃ (i1:Int),qah s f_0 f_1 m i1=some o1∧e=[(0,.slice p1 s.length k1),(1,.func (.func 158) #[] #[.pointer (some ⟨b1,o_1,none⟩),.pointer (some ⟨b2,o_2,none⟩)]),(7,.int .i64 (s.length:Int)),(8,.int .i64 i1)]∧SH w w' []) n ⟨_,hF,rfl,h⟩ rfl ?_)
 rintro m1 e1 w1 ⟨i1,hF,rfl,h⟩
 rcases m1 with _|m1
 ·cases hF
 refine X0 5 rfl (qh rfl hF ?_ ?_)<;>intro hF
 ·refine X0 13 rfl ?_
  obtain ⟨y1,hy1,hF,he1,b3,_,q1,cs4,hp1,hq1,rfl,hc4⟩:=s1.ix hF
  refine zxe hp1 hq1 he1 rfl (zc 0 (hc4.below h.below) rfl (zcB h hF (qn4 (h.old ha2) (h.old ha3)) rfl fun r1 w2 h hF=>qcP (qh rfl hF ?_ ?_)))<;>intro hF
  ·refine X0 5 rfl ?_
   obtain rfl:=qb hF;replace hF:=hK1
   exact ri h hF rfl
  exact X0 6 rfl (rK ⟨_,hF,rfl,h⟩ rfl)
 refine qq rfl ?_
 obtain rfl:=qb hF;replace hF:=hK1
 exact X0 4 rfl (ri h hF rfl)
def qbw (n:Nat) (s:(List Int)) (f_0:Int) (f_1:Int):Option Bool :=
 (qa0 n s f_0 f_1).bind fun r1 =>
 some (decide (r1 ≥ 0))
theorem qfu {s:(List Int)} {f_0:Int} {f_1:Int} (ha1:GoT.R w (old w) s cs1) {p2:Option Addr} (ha2:GoT.R w (old w) (some f_0) [.pointer p2]) {p3:Option Addr} (ha3:GoT.R w (old w) (some f_1) [.pointer p3]) {r:Bool} (hF:qbw n s f_0 f_1=some r):RetV Tryz.prog 110 [GoT.v (List Int) cs1,.func (.func 158) #[] #[.pointer p2,.pointer p3]] w r:=by
 obtain ⟨p1,k1,rfl,s1⟩:=ha1
 obtain ⟨b1,o_1,cs2,rfl,-,hr1,hc1⟩:=PtR.get ha2 rfl
 obtain rfl:=hr1
 obtain ⟨b2,o_2,cs3,rfl,-,hr2,hc2⟩:=PtR.get ha3 rfl
 obtain rfl:=hr2
 exact zV 9 Tryz.func110 rfl fun h=>X0 8 rfl (zcI h hF (qf6 ⟨_,_,rfl,(h.oldS s1)⟩ (h.old ha2) (h.old ha3)) rfl fun r1 w1 h hF=>X0 3 rfl (rb h hF rfl))
def qbO (n:Nat) (list:(List Int)) (low:Int) (high:Int):Option Bool :=
 (qbw n list low high).bind fun r1 =>
 some (!r1)
theorem qb8 {list:(List Int)} {low:Int} {high:Int} (ha1:GoT.R w (old w) list cs1) {r:Bool} (hF:qbO n list low high=some r):RetV Tryz.prog 106 [GoT.v (List Int) cs1,.int .i64 low,.int .i64 high] w r:=by
 obtain ⟨p1,k1,rfl,s1⟩:=ha1
 exact zV 11 Tryz.func106 rfl fun h=>zSR (qv h rfl rfl fun w1 bb1 h=>qv h rfl rfl fun w2 bb2 h=>X0 6 rfl (zcB h hF (qfu ⟨_,_,rfl,(h.oldS s1)⟩ (qha (x:=low) 1 h rfl rfl) (qha (x:=high) 0 h rfl rfl)) rfl fun r1 w3 h hF=>X0 3 rfl (rb h hF rfl)))
def qbr (_:Nat) (list:(List Int)):Option Int :=
 some (list.length:Int)
theorem qcz {list:(List Int)} (ha1:GoT.R w (old w) list cs1) {r:Int} (hF:qbr n list=some r):RetV Tryz.prog 217 [GoT.v (List Int) cs1] w r:=by
 obtain ⟨p1,k1,rfl,s1⟩:=ha1
 exact zV 5 Tryz.func217 rfl fun h=>X0 10 rfl (ri h hF rfl)
def qbt (list:(List Int)):Nat→Int→Option (Flow Bool Int)
 | 0,_=>none
 | n+1,i1 =>
  bif decide (i1<(list.length:Int)) then
   (idx list (W64 (i1-1))).bind fun y1 =>
   (idx list i1).bind fun y2 =>
   bif decide (y1 ≥ y2) then some (.ret false) else
   qbt list n (W64 (i1+1))
  else
   some (.nxt i1)
def qe8 (n:Nat) (list:(List Int)):Option Bool :=
 (qbt list n 1).bind fun o=>match o with
 | .ret r=>some r
 | .nxt _ =>
  some true
theorem qjU {list:(List Int)} (ha1:GoT.R w (old w) list cs1) {r:Bool} (hF:qe8 n list=some r):RetV Tryz.prog 223 [GoT.v (List Int) cs1] w r:=by
 obtain ⟨p1,k1,rfl,s1⟩:=ha1
 refine zV 20 Tryz.func223 rfl fun h=>X0 9 rfl ?_
 obtain ⟨o1,hF,hK1⟩:=qc hF
 refine qm (rL (fun m e w'=>∃ (i1:Int),qbt list m i1=some o1∧e=[(0,.slice p1 list.length k1),(3,.int .i64 i1)]∧SH w w' []) n ⟨_,hF,rfl,h⟩ rfl ?_)
 rintro m1 e1 w1 ⟨i1,hF,rfl,h⟩
 rcases m1 with _|m1
 ·cases hF
 refine X0 8 rfl (qh rfl hF ?_ ?_)<;>intro hF
 ·refine X0 4 rfl (rD (zd3 rfl ?_))
  obtain ⟨y1,hy1,hF,he1,b1,_,q1,cs2,hp1,hq1,rfl,hc2⟩:=s1.ix hF
  refine zdxe hp1 hq1 he1 rfl (zdc 0 (hc2.below h.below) rfl (zd2 rfl ?_))
  obtain ⟨y2,hy2,hF,he2,b2,_,q2,cs3,hp2,hq2,rfl,hc3⟩:=s1.ix hF
  refine zdxe hp2 hq2 he2 rfl (zdc 0 (hc3.below h.below) rfl (zd1 rfl (dN h fun w2 h=>qh rfl hF ?_ ?_)))<;>intro hF
  ·refine X0 4 rfl ?_
   obtain rfl:=qb hF;replace hF:=hK1
   exact rb h hF rfl
  exact X0 7 rfl (rK ⟨_,hF,rfl,h⟩ rfl)
 refine qq rfl ?_
 obtain rfl:=qb hF;replace hF:=hK1
 exact X0 4 rfl (rb h hF rfl)
def qjK (n:Nat) (list:(List Int)):Option Bool :=
 (qbr n list).bind fun r1 =>
 (qaN n r1 1 4).bind fun r2 =>
 bif r2 then
  (qbO n list 0 100000).bind fun r3 =>
  bif r3 then
   (qe8 n list).bind fun r4 =>
   some r4
  else
   some false
 else
  some false
theorem qnx {list:(List Int)} (ha1:GoT.R w (old w) list cs1) {r:Bool} (hF:qjK n list=some r):RetV Tryz.prog 318 [GoT.v (List Int) cs1] w r:=by
 obtain ⟨p1,k1,rfl,s1⟩:=ha1
 refine zV 14 Tryz.func318 rfl fun h=>X0 7 rfl (zcI h hF (qcz ⟨_,_,rfl,(h.oldS s1)⟩) rfl fun r1 w1 h hF=>zcB h hF qaz rfl fun r2 w2 h hF=>zp1 rfl (qk (t:=6) hF rfl ?_ ?_))<;>intro hF
 ·refine X0 3 rfl (zcB h hF (qb8 ⟨_,_,rfl,(h.oldS s1)⟩) rfl fun r3 w3 h hF=>zp2 rfl (qk (t:=10) hF rfl ?_ ?_))<;>intro hF
  ·exact X0 3 rfl (zcB h hF (qjU ⟨_,_,rfl,(h.oldS s1)⟩) rfl fun r4 w4 h hF=>X0 3 rfl (rb h hF rfl))
  exact X0 5 rfl (rb h hF rfl)
 exact X0 9 rfl (rb h hF rfl)
def qkf (n:Nat) (t:qr):Option Bool :=
 (qjK n t.Bm).bind fun r1 =>
 bif r1 then
  (qjK n t.Bj).bind fun r2 =>
  bif r2 then
   bif ((t.Bh.length:Int)==(W64 ((t.Bm.length:Int)*(t.Bj.length:Int)))) then
    (qbO n t.Bh (-1000000) 1000000).bind fun r3 =>
    some r3
   else
    some false
  else
   some false
 else
  some false
theorem qqA {t:qr} (ha1:GoT.R w (old w) t cs1) {r:Bool} (hF:qkf n t=some r):RetV Tryz.prog 313 [GoT.v qr cs1] w r:=by
 obtain ⟨p1,k1,p2,k2,p3,k3,rfl,s1,s2,s3⟩:=qaE ha1
 refine zV 29 Tryz.func313 rfl fun h=>zSR (qv h rfl rfl fun w1 bb1 h=>X1 6 0 h rfl (zcB h hF (qnx ⟨_,_,rfl,(h.oldS s1)⟩) rfl fun r1 w2 h hF=>zp1 rfl (qk (t:=6) hF rfl ?_ ?_)))<;>intro hF
 ·refine X1 5 0 h rfl (zcB h hF (qnx ⟨_,_,rfl,(h.oldS s2)⟩) rfl fun r2 w3 h hF=>zp2 rfl (qk (t:=11) hF rfl ?_ ?_))<;>intro hF
  ·refine X3 24 0 0 0 h rfl (qk (t:=24) hF rfl ?_ ?_)<;>intro hF
   ·exact X1 5 0 h rfl (zcB h hF (qb8 ⟨_,_,rfl,(h.oldS s3)⟩) rfl fun r3 w4 h hF=>X0 3 rfl (rb h hF rfl))
   exact X0 6 rfl (rb h hF rfl)
  exact X0 19 rfl (rb h hF rfl)
 exact X0 24 rfl (rb h hF rfl)
def qcR (x:(List Int)):Nat→Int→Int→Option (Int × Int)
 | 0,_,_=>none
 | n+1,i1,i2 =>
  bif decide (i2<(x.length:Int)) then
   (idx x i2).bind fun y2 =>
   qcR x n (if y2<i1 then y2 else i1) (W64 (i2+1))
  else
   some (i1,i2)
def qho (n:Nat) (x:(List Int)):Option Int :=
 (
  bif decide ((x.length:Int)<1) then none else
  some ()).bind fun _ =>
 (idx x 0).bind fun y1 =>
 (qcR x n y1 1).bind fun o=>match o with
 | (i1,_) =>
  some i1
theorem qn8 {x:(List Int)} (ha1:GoT.R w (old w) x cs1) {r:Int} (hF:qho n x=some r):RetV Tryz.prog 314 [GoT.v (List Int) cs1] w r:=by
 obtain ⟨p1,k1,rfl,s1⟩:=ha1
 refine zV 25 Tryz.func314 rfl fun h=>X0 11 rfl ?_
 obtain ⟨KF1,hKF1,o2,hF,hK2⟩:=bindE hF
 refine qba (fun e w'=>KF1 ()=some r∧e=[(0,.slice p1 x.length k1)]∧SH w w' []) ?_ ?_
 ·refine qh rfl hF ?_ ?_<;>intro hF
  ·refine ql9 ?_
   cases hF
  refine qih ?_
  obtain rfl:=qb hF
  exact rG ⟨hK2,rfl,h⟩ rfl
 rintro e2 w2 ⟨hF,rfl,h⟩
 subst hKF1
 refine X0 3 rfl ?_
 obtain ⟨y1,hy1,hF,he1,b1,_,q1,cs2,hp1,hq1,rfl,hc1⟩:=s1.ix hF
 refine zxe hp1 hq1 he1 rfl (zc 0 (hc1.below h.below) rfl (X0 7 rfl ?_))
 obtain ⟨o1,hF,hK1⟩:=qc hF
 refine qm (rL (fun m e w'=>∃ (i1:Int) (i2:Int),qcR x m i1 i2=some o1∧e=[(0,.slice p1 x.length k1),(3,.int .i64 i1),(4,.int .i64 i2)]∧SH w w' []) n ⟨_,_,hF,rfl,h⟩ rfl ?_)
 rintro m1 e1 w1 ⟨i1,i2,hF,rfl,h⟩
 rcases m1 with _|m1
 ·cases hF
 refine X0 8 rfl (qh rfl hF ?_ ?_)<;>intro hF
 ·refine X0 7 rfl ?_
  obtain ⟨y2,hy2,hF,he2,b2,_,q2,cs3,hp2,hq2,rfl,hc3⟩:=s1.ix hF
  exact zxe hp2 hq2 he2 rfl (zc 0 (hc3.below h.below) rfl (X0 9 rfl (rK ⟨_,_,hF,rfl,h⟩ rfl)))
 refine qq rfl ?_
 obtain rfl:=qb hF;replace hF:=hK1
 exact X0 5 rfl (ri h hF rfl)
def qhv (n:Nat) (t:qr) (v0:Bool):Option Bool :=
 (qkf n t).bind fun r1 =>
 bif (!r1) then some true else
 bif v0 then
  (qho n t.Bh).bind fun r2 =>
  some (decide (r2<0))
 else
  some false
theorem qoa {t:qr} {v0:Bool} (ha1:GoT.R w (old w) t cs1) {p4:Option Addr} (ha2:GoT.R w (old w) (some v0) [.pointer p4]) {r:Bool} (hF:qhv n t v0=some r):RetV Tryz.prog 312 [GoT.v qr cs1,.pointer p4] w r:=by
 obtain ⟨p1,k1,p2,k2,p3,k3,rfl,s1,s2,s3⟩:=qaE ha1
 obtain ⟨b1,o_1,cs2,rfl,-,hr1,hc1⟩:=PtR.get ha2 rfl
 obtain rfl:=hr1
 refine zV 16 Tryz.func312 rfl fun h=>zSR (qv h rfl rfl fun w1 bb1 h=>X1 5 0 h rfl (zcB h hF (qqA (h.old ha1)) rfl fun r1 w2 h hF=>zp2 rfl (qk (t:=7) hF rfl ?_ ?_)))<;>intro hF
 ·exact X0 10 rfl (rb h hF rfl)
 refine X0 1 rfl (zc 0 (hc1.below h.below) rfl (X0 2 rfl (qk (t:=9) hF rfl ?_ ?_)))<;>intro hF
 ·exact X1 5 0 h rfl (zcI h hF (qn8 ⟨_,_,rfl,(h.oldS s3)⟩) rfl fun r2 w3 h hF=>X0 7 rfl (rb h hF rfl))
 exact X0 9 rfl (rb h hF rfl)
def qS (s:(List qr)) (f_0:Bool):Nat→Int→Option (Flow Int Int)
 | 0,_=>none
 | n+1,i1 =>
  bif decide (i1<(s.length:Int)) then
   (idx s i1).bind fun y1 =>
   (qhv n y1 f_0).bind fun r1 =>
   bif r1 then some (.ret i1) else
   qS s f_0 n (W64 (i1+1))
  else
   some (.nxt i1)
def qaG (n:Nat) (s:(List qr)) (f_0:Bool):Option Int :=
 (qS s f_0 n 0).bind fun o=>match o with
 | .ret r=>some r
 | .nxt _ =>
  some (-1)
theorem qe0 {s:(List qr)} {f_0:Bool} (ha1:GoT.R w (old w) s cs1) {p2:Option Addr} (ha2:GoT.R w (old w) (some f_0) [.pointer p2]) {r:Int} (hF:qaG n s f_0=some r):RetV Tryz.prog 317 [GoT.v (List qr) cs1,.func (.func 312) #[] #[.pointer p2]] w r:=by
 obtain ⟨p1,k1,rfl,s1⟩:=ha1
 obtain ⟨b1,o_1,cs2,rfl,-,hr1,hc1⟩:=PtR.get ha2 rfl
 obtain rfl:=hr1
 refine zV 19 Tryz.func317 rfl fun h=>X0 11 rfl ?_
 obtain ⟨o1,hF,hK1⟩:=qc hF
 refine qm (rL (fun m e w'=>∃ (i1:Int),qS s f_0 m i1=some o1∧e=[(0,.slice p1 s.length k1),(1,.func (.func 312) #[] #[.pointer (some ⟨b1,o_1,none⟩)]),(7,.int .i64 (s.length:Int)),(8,.int .i64 i1)]∧SH w w' []) n ⟨_,hF,rfl,h⟩ rfl ?_)
 rintro m1 e1 w1 ⟨i1,hF,rfl,h⟩
 rcases m1 with _|m1
 ·cases hF
 refine X0 5 rfl (qh rfl hF ?_ ?_)<;>intro hF
 ·refine X0 13 rfl ?_
  obtain ⟨y1,hy1,hF,he1,b2,_,q1,cs3,hp1,hq1,hr2,hc3⟩:=s1.ix hF
  obtain ⟨p3,k2,p4,k3,p5,k4,rfl,s2,s3,s4⟩:=qaE hr2
  refine zxe hp1 hq1 he1 rfl (zc 0 (hc3.below h.below) rfl (zcB h hF (qoa (qfs y1 (h.oldS s2) (h.oldS s3) (h.oldS s4)) (h.old ha2)) rfl fun r1 w2 h hF=>qcP (qh rfl hF ?_ ?_)))<;>intro hF
  ·refine X0 5 rfl ?_
   obtain rfl:=qb hF;replace hF:=hK1
   exact ri h hF rfl
  exact X0 6 rfl (rK ⟨_,hF,rfl,h⟩ rfl)
 refine qq rfl ?_
 obtain rfl:=qb hF;replace hF:=hK1
 exact X0 4 rfl (ri h hF rfl)
def qa4 (n:Nat) (s:(List qr)) (f_0:Bool):Option Bool :=
 (qaG n s f_0).bind fun r1 =>
 some (decide (r1 ≥ 0))
theorem qez {s:(List qr)} {f_0:Bool} (ha1:GoT.R w (old w) s cs1) {p2:Option Addr} (ha2:GoT.R w (old w) (some f_0) [.pointer p2]) {r:Bool} (hF:qa4 n s f_0=some r):RetV Tryz.prog 311 [GoT.v (List qr) cs1,.func (.func 312) #[] #[.pointer p2]] w r:=by
 obtain ⟨p1,k1,rfl,s1⟩:=ha1
 obtain ⟨b1,o_1,cs2,rfl,-,hr1,hc1⟩:=PtR.get ha2 rfl
 obtain rfl:=hr1
 exact zV 9 Tryz.func311 rfl fun h=>X0 8 rfl (zcI h hF (qe0 ⟨_,_,rfl,(h.oldS s1)⟩ (h.old ha2)) rfl fun r1 w1 h hF=>X0 3 rfl (rb h hF rfl))
def qfS (n:Nat) (list:(List qr)) (positive:Bool):Option Bool :=
 bif ((list.length:Int)==2) then
  (qa4 n list positive).bind fun r1 =>
  some (!r1)
 else
  some false
theorem qiF {list:(List qr)} {positive:Bool} (ha1:GoT.R w (old w) list cs1) {r:Bool} (hF:qfS n list positive=some r):RetV Tryz.prog 302 [GoT.v (List qr) cs1,.bool positive] w r:=by
 obtain ⟨p1,k1,rfl,s1⟩:=ha1
 refine zV 14 Tryz.func302 rfl fun h=>zSR (qv h rfl rfl fun w1 bb1 h=>X0 8 rfl (qk (t:=8) hF rfl ?_ ?_))<;>intro hF
 ·exact X0 5 rfl (zcB h hF (qez ⟨_,_,rfl,(h.oldS s1)⟩ (qha (x:=positive) 0 h rfl rfl)) rfl fun r1 w2 h hF=>X0 5 rfl (rb h hF rfl))
 exact X0 7 rfl (rb h hF rfl)
def qip (_:Nat) (p:qal):Option Bool :=
 some p.Br
theorem qnB {p:qal} (ha1:GoT.R w (old w) p cs1) {r:Bool} (hF:qip n p=some r):RetV Tryz.prog 316 [GoT.v qal cs1] w r:=by
 obtain rfl:=qaX ha1
 exact zV 5 Tryz.func316 rfl fun h=>zSR (qv h rfl rfl fun w1 bb1 h=>X1 8 0 h rfl (rb h hF rfl))
def qV (s:(List qal)):Nat→Int→Option (Flow Int Int)
 | 0,_=>none
 | n+1,i1 =>
  bif decide (i1<(s.length:Int)) then
   (idx s i1).bind fun y1 =>
   (qip n y1).bind fun r1 =>
   bif r1 then some (.ret i1) else
   qV s n (W64 (i1+1))
  else
   some (.nxt i1)
def qbs (n:Nat) (s:(List qal)):Option Int :=
 (qV s n 0).bind fun o=>match o with
 | .ret r=>some r
 | .nxt _ =>
  some (-1)
theorem qfq {s:(List qal)} (ha1:GoT.R w (old w) s cs1) {r:Int} (hF:qbs n s=some r):RetV Tryz.prog 315 [GoT.v (List qal) cs1,.func (.func 316) #[] #[]] w r:=by
 obtain ⟨p1,k1,rfl,s1⟩:=ha1
 refine zV 19 Tryz.func315 rfl fun h=>X0 11 rfl ?_
 obtain ⟨o1,hF,hK1⟩:=qc hF
 refine qm (rL (fun m e w'=>∃ (i1:Int),qV s m i1=some o1∧e=[(0,.slice p1 s.length k1),(1,.func (.func 316) #[] #[]),(7,.int .i64 (s.length:Int)),(8,.int .i64 i1)]∧SH w w' []) n ⟨_,hF,rfl,h⟩ rfl ?_)
 rintro m1 e1 w1 ⟨i1,hF,rfl,h⟩
 rcases m1 with _|m1
 ·cases hF
 refine X0 5 rfl (qh rfl hF ?_ ?_)<;>intro hF
 ·refine X0 13 rfl ?_
  obtain ⟨y1,hy1,hF,he1,b1,_,q1,cs2,hp1,hq1,hr1,hc2⟩:=s1.ix hF
  obtain rfl:=qaX hr1
  refine zxe hp1 hq1 he1 rfl (zc 0 (hc2.below h.below) rfl (zcB h hF (qnB (qd0 y1)) rfl fun r1 w2 h hF=>qcP (qh rfl hF ?_ ?_)))<;>intro hF
  ·refine X0 5 rfl ?_
   obtain rfl:=qb hF;replace hF:=hK1
   exact ri h hF rfl
  exact X0 6 rfl (rK ⟨_,hF,rfl,h⟩ rfl)
 refine qq rfl ?_
 obtain rfl:=qb hF;replace hF:=hK1
 exact X0 4 rfl (ri h hF rfl)
def qh0 (n:Nat) (c:qw):Option Int :=
 (qbs n c.Bd).bind fun r1 =>
 some r1
theorem qol {c:qw} (ha1:GoT.R w (old w) c cs1) {r:Int} (hF:qh0 n c=some r):RetV Tryz.prog 303 [GoT.v qw cs1] w r:=by
 obtain ⟨p1,k1,p2,k2,p3,k3,rfl,s1,s2,s3⟩:=qac ha1
 exact zV 6 Tryz.func303 rfl fun h=>zSR (qv h rfl rfl fun w1 bb1 h=>X1 6 0 h rfl (zcI h hF (qfq ⟨_,_,rfl,(h.oldS s1)⟩) rfl fun r1 w2 h hF=>X0 2 rfl (ri h hF rfl)))
def qgL (n:Nat) (c:qw) (pin:Int):Option Bool :=
 (qeo n c).bind fun r1 =>
 (qaN n pin 0 (W64 (r1-1))).bind fun r2 =>
 some r2
theorem qjM {c:qw} {pin:Int} (ha1:GoT.R w (old w) c cs1) {r:Bool} (hF:qgL n c pin=some r):RetV Tryz.prog 304 [GoT.v qw cs1,.int .i64 pin] w r:=by
 obtain ⟨p1,k1,p2,k2,p3,k3,rfl,s1,s2,s3⟩:=qac ha1
 exact zV 10 Tryz.func304 rfl fun h=>zSR (qv h rfl rfl fun w1 bb1 h=>X1 6 0 h rfl (zcI h hF (qhy (h.old ha1)) rfl fun r1 w2 h hF=>zp1 rfl (zcB h hF qaz rfl fun r2 w3 h hF=>X0 2 rfl (rb h hF rfl))))
end Go.Fw


namespace Go.Fw
open Go Go.Proofs
open Go.RowKit (Below)
set_option maxRecDepth 100000
set_option maxHeartbeats 1600000
variable {n:Nat} {w:World} {cs1 cs2 cs3 cs4 cs5 cs6 cs7 cs8 cs9:List Value}
def qhY (n:Nat) (a_0:qw) (a_1:qF):Option Bool :=
 (qkt n a_1.Be).bind fun r1 =>
 bif r1 then
  (
   bif (a_1.Bp==0) then
    bif ((a_1.Bc.length:Int)==0) then
     (qfS n a_1.Bn false).bind fun r2 =>
     bif r2 then
      (qh0 n a_0).bind fun r3 =>
      bif (a_1.Bk==r3) then
       bif decide (a_1.Bk ≥ 0) then
        (qgL n a_0 a_1.To).bind fun r4 =>
        bif r4 then some (a_1.To != a_1.Bk) else
        some false
       else
        some false
      else
       some false
     else
      some false
    else
     some false
   else
    some false).bind fun b1 =>
  some b1
 else
  (
   (qfS n a_1.Bn true).bind fun r6 =>
   bif (!r6) then some true else
   (qfS n a_1.Bc true).bind fun r7 =>
   bif (!r7) then some true else
   (qeo n a_0).bind fun r8 =>
   bif (a_1.To != r8) then some true else
   (qgL n a_0 a_1.Bk).bind fun r9 =>
   some (!r9)).bind fun b2 =>
  bif b2 then some false else
  bif (a_1.Be==1) then
   (idx a_0.Bd a_1.Bk).bind fun y1 =>
   bif (!y1.Br) then
    (qaN n a_1.Bp 1 3).bind fun r5 =>
    some r5
   else
    some false
  else
   (
    bif (a_1.Be==2) then some (a_1.Be==2) else
    some (a_1.Be==3)).bind fun b4 =>
   bif b4 then
    (idx a_0.Bd a_1.Bk).bind fun y2 =>
    bif y2.Br then some (a_1.Bp==0) else
    some false
   else
    some false
theorem qop {a_0:qw} {a_1:qF} (ha1:GoT.R w (old w) a_0 cs1) (ha2:GoT.R w (old w) a_1 cs2) {r:Bool} (hF:qhY n a_0 a_1=some r):RetV Tryz.prog 291 [GoT.v qw cs1,GoT.v qF cs2] w r:=by
 obtain ⟨p1,k1,p2,k2,p3,k3,rfl,s1,s2,s3⟩:=qac ha1
 obtain ⟨p4,k4,p5,k5,rfl,s4,s5⟩:=qag ha2
 refine zV 103 Tryz.func291 rfl fun h=>zSR (qv h rfl rfl fun w1 bb1 h=>qv h rfl rfl fun w2 bb2 h=>X1 7 0 h rfl (zcB h hF qqH rfl fun r1 w3 h hF=>qcP (qh rfl hF ?_ ?_)))<;>intro hF
 ·refine qcX ?_
  obtain ⟨KF1,hKF1,o1,hF,hK1⟩:=bindE hF
  refine qba (fun e w'=>∃ (b1:Bool),KF1 b1=some r∧e=[(4,.bool b1)]∧SH w w' []) ?_ ?_
  ·refine rD (Y1 2 0 h rfl ?_)
   refine zd2 rfl (qaT (t:=11) hF rfl ?_ ?_)<;>intro hF
   ·refine Y1 4 0 h rfl ?_
    refine Y0 6 rfl (qaT (t:=17) hF rfl ?_ ?_)<;>intro hF
    ·refine Y1 4 0 h rfl ?_
     refine Y0 1 rfl ?_
     obtain ⟨r2,hr2,hF⟩:=qc hF
     refine qbo r2 (vsB _) (cB 302 rfl) (fun _ hb=>qiF ⟨_,_,rfl,((h.ext hb).oldS s4)⟩ hr2) rfl rfl rfl rfl (zd2 rfl (qaT (t:=22) hF rfl ?_ ?_))<;>intro hF
     ·refine Y1 4 0 h rfl ?_
      refine Y1 2 1 h rfl ?_
      refine Y0 1 rfl ?_
      obtain ⟨r3,hr3,hF⟩:=qc hF
      refine qbo r3 (vsI _) (cB 303 rfl) (fun _ hb=>qol ((h.ext hb).old ha1) hr3) rfl rfl rfl rfl (Y0 4 rfl (qaT (t:=29) hF rfl ?_ ?_))<;>intro hF
      ·refine Y1 4 0 h rfl ?_
       refine Y0 4 rfl (qaT (t:=34) hF rfl ?_ ?_)<;>intro hF
       ·refine Y1 2 1 h rfl ?_
        refine Y1 4 0 h rfl ?_
        refine Y0 1 rfl ?_
        obtain ⟨r4,hr4,hF⟩:=qc hF
        refine qbo r4 (vsB _) (cB 304 rfl) (fun _ hb=>qjM ((h.ext hb).old ha1) hr4) rfl rfl rfl rfl (zd2 rfl (qaT (t:=40) hF rfl ?_ ?_))<;>intro hF
        ·refine Y1 4 0 h rfl ?_
         refine Y1 4 0 h rfl ?_
         refine Y0 4 rfl (dN h fun w4 h=>?_)
         replace h:=h.pick [] rfl
         obtain rfl:=qb hF
         exact rG ⟨_,hK1,rfl,h⟩ rfl
        refine Y0 7 rfl (dN h fun w5 h=>?_)
        replace h:=h.pick [] rfl
        obtain rfl:=qb hF
        exact rG ⟨_,hK1,rfl,h⟩ rfl
       refine Y0 13 rfl (dN h fun w6 h=>?_)
       replace h:=h.pick [] rfl
       obtain rfl:=qb hF
       exact rG ⟨_,hK1,rfl,h⟩ rfl
      refine Y0 18 rfl (dN h fun w7 h=>?_)
      replace h:=h.pick [] rfl
      obtain rfl:=qb hF
      exact rG ⟨_,hK1,rfl,h⟩ rfl
     refine Y0 25 rfl (dN h fun w8 h=>?_)
     replace h:=h.pick [] rfl
     obtain rfl:=qb hF
     exact rG ⟨_,hK1,rfl,h⟩ rfl
    refine Y0 30 rfl (dN h fun w9 h=>?_)
    replace h:=h.pick [] rfl
    obtain rfl:=qb hF
    exact rG ⟨_,hK1,rfl,h⟩ rfl
   refine Y0 36 rfl (dN h fun w10 h=>?_)
   replace h:=h.pick [] rfl
   obtain rfl:=qb hF
   exact rG ⟨_,hK1,rfl,h⟩ rfl
  rintro e1 w11 ⟨b1,hF,rfl,h⟩
  subst hKF1
  exact rb h hF rfl
 refine zKSS ?_
 obtain ⟨KF3,hKF3,o3,hF,hK3⟩:=bindE hF
 refine qba (fun e w'=>∃ (b2:Bool),KF3 b2=some r∧e=[(2,.pointer (some ⟨bb1,0,none⟩)),(3,.pointer (some ⟨bb2,0,none⟩)),(70,.bool b2)]∧SH w w' [Ch.box bb2 (qgV a_1 p4 p5 k4 k5) 173,Ch.box bb1 (qd4 a_0 p1 p2 p3 k1 k2 k3) 168]) ?_ ?_
 ·refine rD (Y1 2 0 h rfl ?_)
  obtain ⟨r6,hr8,hF⟩:=qc hF
  refine qbo r6 (vsB _) (cB 302 rfl) (fun _ hb=>qiF ⟨_,_,rfl,((h.ext hb).oldS s4)⟩ hr8) rfl rfl rfl rfl (zd2 rfl (qaT (t:=51) hF rfl ?_ ?_))<;>intro hF
  ·refine Y0 19 rfl (dN h fun w14 h=>?_)
   obtain rfl:=qb hF
   exact rG ⟨_,hK3,rfl,h⟩ rfl
  refine Y1 4 0 h rfl ?_
  refine Y0 1 rfl ?_
  obtain ⟨r7,hr9,hF⟩:=qc hF
  refine qbo r7 (vsB _) (cB 302 rfl) (fun _ hb=>qiF ⟨_,_,rfl,((h.ext hb).oldS s5)⟩ hr9) rfl rfl rfl rfl (Y0 4 rfl (qaT (t:=57) hF rfl ?_ ?_))<;>intro hF
  ·refine Y0 13 rfl (dN h fun w15 h=>?_)
   obtain rfl:=qb hF
   exact rG ⟨_,hK3,rfl,h⟩ rfl
  refine Y1 4 0 h rfl ?_
  refine Y1 2 1 h rfl ?_
  refine Y0 1 rfl ?_
  obtain ⟨r8,hr10,hF⟩:=qc hF
  refine qbo r8 (vsI _) (cB 294 rfl) (fun _ hb=>qhy ((h.ext hb).old ha1) hr10) rfl rfl rfl rfl (Y0 4 rfl (qaT (t:=64) hF rfl ?_ ?_))<;>intro hF
  ·refine Y0 6 rfl (dN h fun w16 h=>?_)
   obtain rfl:=qb hF
   exact rG ⟨_,hK3,rfl,h⟩ rfl
  refine Y1 2 1 h rfl ?_
  refine Y1 4 0 h rfl ?_
  refine Y0 1 rfl ?_
  obtain ⟨r9,hr11,hF⟩:=qc hF
  refine qbo r9 (vsB _) (cB 304 rfl) (fun _ hb=>qjM ((h.ext hb).old ha1) hr11) rfl rfl rfl rfl (Y0 3 rfl (dN h fun w17 h=>?_))
  obtain rfl:=qb hF
  exact rG ⟨_,hK3,rfl,h⟩ rfl
 rintro e3 w18 ⟨b2,hF,rfl,h⟩
 subst hKF3
 refine qh rfl hF ?_ ?_<;>intro hF
 ·exact X0 4 rfl (rb h hF rfl)
 refine X1 13 0 h rfl (qh rfl hF ?_ ?_)<;>intro hF
 ·refine X2 6 1 0 h rfl ?_
  obtain ⟨y1,hy1,hF,he1,b3,_,q1,cs3,hp1,hq1,hr5,hc4⟩:=s1.ix hF
  obtain rfl:=qaX hr5
  refine zxe hp1 hq1 he1 rfl (zp1 rfl (zc 3 (hc4.below h.below) rfl (zp2 rfl (qk (t:=83) hF rfl ?_ ?_))))<;>intro hF
  ·exact X1 5 0 h rfl (zcB h hF qaz rfl fun r5 w12 h hF=>X0 3 rfl (rb h hF rfl))
  exact X0 6 rfl (rb h hF rfl)
 refine X0 6 rfl ?_
 obtain ⟨KF2,hKF2,o2,hF,hK2⟩:=bindE hF
 refine qba (fun e w'=>∃ (b4:Bool),KF2 b4=some r∧e=[(2,.pointer (some ⟨bb1,0,none⟩)),(3,.pointer (some ⟨bb2,0,none⟩)),(88,.bool b4)]∧SH w w' [Ch.box bb2 (qgV a_1 p4 p5 k4 k5) 173,Ch.box bb1 (qd4 a_0 p1 p2 p3 k1 k2 k3) 168]) ?_ ?_
 ·refine qh rfl hF ?_ ?_<;>intro hF
  ·refine qih ?_
   obtain rfl:=qb hF
   exact rG ⟨_,hK2,rfl,h⟩ rfl
  refine X0 4 rfl ?_
  obtain rfl:=qb hF
  exact rG ⟨_,hK2,rfl,h⟩ rfl
 rintro e2 w13 ⟨b4,hF,rfl,h⟩
 subst hKF2
 refine qh rfl hF ?_ ?_<;>intro hF
 ·refine X2 6 1 0 h rfl ?_
  obtain ⟨y2,hy2,hF,he2,b5,_,q2,cs4,hp2,hq2,hr7,hc6⟩:=s1.ix hF
  obtain rfl:=qaX hr7
  refine zxe hp2 hq2 he2 rfl (zp1 rfl (zc 3 (hc6.below h.below) rfl (zp1 rfl (qk (t:=98) hF rfl ?_ ?_))))<;>intro hF
  ·exact X1 9 0 h rfl (rb h hF rfl)
  exact X0 6 rfl (rb h hF rfl)
 exact X0 6 rfl (rb h hF rfl)
def qfx (_:Nat) (a_o:qF) (v0:qF):Option Bool :=
 bif (a_o.Be==v0.Be) then
  bif (a_o.Bk==v0.Bk) then some (a_o.To==v0.To) else
  some false
 else
  some false
theorem qmF {a_o:qF} {v0:qF} (ha1:GoT.R w (old w) a_o cs1) {p3:Option Addr} (ha2:GoT.R w (old w) (some v0) [.pointer p3]) {r:Bool} (hF:qfx n a_o v0=some r):RetV Tryz.prog 293 [GoT.v qF cs1,.pointer p3] w r:=by
 obtain ⟨p1,k1,p2,k2,rfl,s1,s2⟩:=qag ha1
 obtain ⟨b1,o_1,cs2,rfl,-,hr1,hc1⟩:=PtR.get ha2 rfl
 obtain ⟨p4,k3,p5,k4,rfl,s3,s4⟩:=qag hr1
 refine zV 23 Tryz.func293 rfl fun h=>zSR (qv h rfl rfl fun w1 bb1 h=>X1 7 0 h rfl (zc 0 (hc1.below h.below) rfl (zp2 rfl (qk (t:=9) hF rfl ?_ ?_))))<;>intro hF
 ·refine X1 7 0 h rfl (zc 1 (hc1.below h.below) rfl (X0 4 rfl (qk (t:=16) hF rfl ?_ ?_)))<;>intro hF
  ·exact X1 7 0 h rfl (zc 2 (hc1.below h.below) rfl (X0 5 rfl (rb h hF rfl)))
  exact X0 8 rfl (rb h hF rfl)
 exact X0 15 rfl (rb h hF rfl)
def qQ (s:(List qF)) (f_0:qF):Nat→Int→Option (Flow Int Int)
 | 0,_=>none
 | n+1,i1 =>
  bif decide (i1<(s.length:Int)) then
   (idx s i1).bind fun y1 =>
   (qfx n y1 f_0).bind fun r1 =>
   bif r1 then some (.ret i1) else
   qQ s f_0 n (W64 (i1+1))
  else
   some (.nxt i1)
def qa9 (n:Nat) (s:(List qF)) (f_0:qF):Option Int :=
 (qQ s f_0 n 0).bind fun o=>match o with
 | .ret r=>some r
 | .nxt _ =>
  some (-1)
theorem qeP {s:(List qF)} {f_0:qF} (ha1:GoT.R w (old w) s cs1) {p2:Option Addr} (ha2:GoT.R w (old w) (some f_0) [.pointer p2]) {r:Int} (hF:qa9 n s f_0=some r):RetV Tryz.prog 305 [GoT.v (List qF) cs1,.func (.func 293) #[] #[.pointer p2]] w r:=by
 obtain ⟨p1,k1,rfl,s1⟩:=ha1
 obtain ⟨b1,o_1,cs2,rfl,-,hr1,hc1⟩:=PtR.get ha2 rfl
 obtain ⟨p3,k2,p4,k3,rfl,s2,s3⟩:=qag hr1
 refine zV 19 Tryz.func305 rfl fun h=>X0 11 rfl ?_
 obtain ⟨o1,hF,hK1⟩:=qc hF
 refine qm (rL (fun m e w'=>∃ (i1:Int),qQ s f_0 m i1=some o1∧e=[(0,.slice p1 s.length k1),(1,.func (.func 293) #[] #[.pointer (some ⟨b1,o_1,none⟩)]),(7,.int .i64 (s.length:Int)),(8,.int .i64 i1)]∧SH w w' []) n ⟨_,hF,rfl,h⟩ rfl ?_)
 rintro m1 e1 w1 ⟨i1,hF,rfl,h⟩
 rcases m1 with _|m1
 ·cases hF
 refine X0 5 rfl (qh rfl hF ?_ ?_)<;>intro hF
 ·refine X0 13 rfl ?_
  obtain ⟨y1,hy1,hF,he1,b2,_,q1,cs3,hp1,hq1,hr2,hc3⟩:=s1.ix hF
  obtain ⟨p5,k4,p6,k5,rfl,s4,s5⟩:=qag hr2
  refine zxe hp1 hq1 he1 rfl (zc 0 (hc3.below h.below) rfl (zcB h hF (qmF (qfL y1 (h.oldS s4) (h.oldS s5)) (h.old ha2)) rfl fun r1 w2 h hF=>qcP (qh rfl hF ?_ ?_)))<;>intro hF
  ·refine X0 5 rfl ?_
   obtain rfl:=qb hF;replace hF:=hK1
   exact ri h hF rfl
  exact X0 6 rfl (rK ⟨_,hF,rfl,h⟩ rfl)
 refine qq rfl ?_
 obtain rfl:=qb hF;replace hF:=hK1
 exact X0 4 rfl (ri h hF rfl)
def qaw (n:Nat) (s:(List qF)) (f_0:qF):Option Bool :=
 (qa9 n s f_0).bind fun r1 =>
 some (decide (r1 ≥ 0))
theorem qen {s:(List qF)} {f_0:qF} (ha1:GoT.R w (old w) s cs1) {p2:Option Addr} (ha2:GoT.R w (old w) (some f_0) [.pointer p2]) {r:Bool} (hF:qaw n s f_0=some r):RetV Tryz.prog 292 [GoT.v (List qF) cs1,.func (.func 293) #[] #[.pointer p2]] w r:=by
 obtain ⟨p1,k1,rfl,s1⟩:=ha1
 obtain ⟨b1,o_1,cs2,rfl,-,hr1,hc1⟩:=PtR.get ha2 rfl
 obtain ⟨p3,k2,p4,k3,rfl,s2,s3⟩:=qag hr1
 exact zV 9 Tryz.func292 rfl fun h=>X0 8 rfl (zcI h hF (qeP ⟨_,_,rfl,(h.oldS s1)⟩ (h.old ha2)) rfl fun r1 w1 h hF=>X0 3 rfl (rb h hF rfl))
def qcu (c:qw):Nat→Int→Option (Flow Bool Int)
 | 0,_=>none
 | n+1,i1 =>
  bif decide (i1<(c.Au.length:Int)) then
   (idx c.Au i1).bind fun y1 =>
   (qhY n c y1).bind fun r1 =>
   bif (!r1) then some (.ret false) else
   (subS c.Au 0 i1).bind fun x1 =>
   (qaw n x1 y1).bind fun r2 =>
   bif r2 then some (.ret false) else
   qcu c n (W64 (i1+1))
  else
   some (.nxt i1)
def qgK (n:Nat) (c:qw):Option Bool :=
 (qcu c n 0).bind fun o=>match o with
 | .ret r=>some r
 | .nxt _ =>
  some (decide ((c.Au.length:Int)≤8))
theorem qm7 {c:qw} (ha1:GoT.R w (old w) c cs1) {r:Bool} (hF:qgK n c=some r):RetV Tryz.prog 281 [GoT.v qw cs1] w r:=by
 obtain ⟨p1,k1,p2,k2,p3,k3,rfl,s1,s2,s3⟩:=qac ha1
 refine zV 30 Tryz.func281 rfl fun h=>zSR (qv h rfl rfl fun w1 bb1 h=>X1 10 0 h rfl ?_)
 obtain ⟨o1,hF,hK1⟩:=qc hF
 refine qm (rL (fun m e w'=>∃ (i1:Int),qcu c m i1=some o1∧e=[(1,.pointer (some ⟨bb1,0,none⟩)),(6,.slice p2 c.Au.length k2),(7,.int .i64 (c.Au.length:Int)),(8,.int .i64 i1)]∧SH w w' [Ch.box bb1 (qd4 c p1 p2 p3 k1 k2 k3) 168]) n ⟨_,hF,rfl,h⟩ rfl ?_)
 rintro m1 e1 w2 ⟨i1,hF,rfl,h⟩
 rcases m1 with _|m1
 ·cases hF
 refine X0 5 rfl (qh rfl hF ?_ ?_)<;>intro hF
 ·refine X0 6 rfl ?_
  obtain ⟨y1,hy1,hF,he1,b1,_,q1,cs2,hp1,hq1,hr1,hc2⟩:=s2.ix hF
  obtain ⟨p4,k4,p5,k5,rfl,s4,s5⟩:=qag hr1
  refine zxe hp1 hq1 he1 rfl (zc 0 (hc2.below h.below) rfl (qp qa h rfl rfl rfl fun w3 bb2 h=>zp1 rfl (zs 0 h rfl fun w4 h=>X2 5 1 0 h rfl (zcB h hF (qop (h.old ha1) (qfL y1 (h.oldS s4) (h.oldS s5))) rfl fun r1 w5 h hF=>zp2 rfl (qk (t:=17) hF rfl ?_ ?_)))))<;>intro hF
  ·refine X0 8 rfl (qbU rfl rfl (X0 4 rfl ?_))
   obtain rfl:=qb hF;replace hF:=hK1
   exact rb h hF rfl
  refine X1 7 1 h rfl ?_
  obtain ⟨x1,hx1,hF⟩:=qc hF
  obtain ⟨p6,k6,hp2,hk1,hl1,g1⟩:=qxf (h.oldS s2) hx1
  refine r_v (quw qa rfl rfl rfl (qxw g1 rfl) hp2 hk1 hl1 rfl rfl rfl rfl) rfl ?_
  have s6:=qxz s2 hx1 hp2 hk1
  refine X0 3 rfl (zcB h hF (qen ⟨_,_,rfl,(h.oldS s6)⟩ (qha (x:=y1) 0 h rfl (qfL y1 (h.oldS s4) (h.oldS s5)))) rfl fun r2 w6 h hF=>X0 2 rfl (qh rfl hF ?_ ?_))<;>intro hF
  ·refine X0 4 rfl ?_
   obtain rfl:=qb hF;replace hF:=hK1
   exact rb h hF rfl
  refine X0 6 rfl ?_
  replace h:=h.pick [1] rfl
  exact rK ⟨_,hF,rfl,h⟩ rfl
 refine qq rfl ?_
 obtain rfl:=qb hF;replace hF:=hK1
 exact X1 8 0 h rfl (rb h hF rfl)
def qj5 (_:Nat) (a:qF) (v0:Int):Option Bool :=
 some (a.Be==v0)
theorem qon {a:qF} {v0:Int} (ha1:GoT.R w (old w) a cs1) {p3:Option Addr} (ha2:GoT.R w (old w) (some v0) [.pointer p3]) {r:Bool} (hF:qj5 n a v0=some r):RetV Tryz.prog 306 [GoT.v qF cs1,.pointer p3] w r:=by
 obtain ⟨p1,k1,p2,k2,rfl,s1,s2⟩:=qag ha1
 obtain ⟨b1,o_1,cs2,rfl,-,hr1,hc1⟩:=PtR.get ha2 rfl
 obtain rfl:=hr1
 exact zV 8 Tryz.func306 rfl fun h=>zSR (qv h rfl rfl fun w1 bb1 h=>X1 6 0 h rfl (zc 0 (hc1.below h.below) rfl (X0 3 rfl (rb h hF rfl))))
def qaa (s:(List qF)) (f_0:Int):Nat→Int→Option (Flow Int Int)
 | 0,_=>none
 | n+1,i1 =>
  bif decide (i1<(s.length:Int)) then
   (idx s i1).bind fun y1 =>
   (qj5 n y1 f_0).bind fun r1 =>
   bif r1 then some (.ret i1) else
   qaa s f_0 n (W64 (i1+1))
  else
   some (.nxt i1)
def qbx (n:Nat) (s:(List qF)) (f_0:Int):Option Int :=
 (qaa s f_0 n 0).bind fun o=>match o with
 | .ret r=>some r
 | .nxt _ =>
  some (-1)
theorem qfV {s:(List qF)} {f_0:Int} (ha1:GoT.R w (old w) s cs1) {p2:Option Addr} (ha2:GoT.R w (old w) (some f_0) [.pointer p2]) {r:Int} (hF:qbx n s f_0=some r):RetV Tryz.prog 305 [GoT.v (List qF) cs1,.func (.func 306) #[] #[.pointer p2]] w r:=by
 obtain ⟨p1,k1,rfl,s1⟩:=ha1
 obtain ⟨b1,o_1,cs2,rfl,-,hr1,hc1⟩:=PtR.get ha2 rfl
 obtain rfl:=hr1
 refine zV 19 Tryz.func305 rfl fun h=>X0 11 rfl ?_
 obtain ⟨o1,hF,hK1⟩:=qc hF
 refine qm (rL (fun m e w'=>∃ (i1:Int),qaa s f_0 m i1=some o1∧e=[(0,.slice p1 s.length k1),(1,.func (.func 306) #[] #[.pointer (some ⟨b1,o_1,none⟩)]),(7,.int .i64 (s.length:Int)),(8,.int .i64 i1)]∧SH w w' []) n ⟨_,hF,rfl,h⟩ rfl ?_)
 rintro m1 e1 w1 ⟨i1,hF,rfl,h⟩
 rcases m1 with _|m1
 ·cases hF
 refine X0 5 rfl (qh rfl hF ?_ ?_)<;>intro hF
 ·refine X0 13 rfl ?_
  obtain ⟨y1,hy1,hF,he1,b2,_,q1,cs3,hp1,hq1,hr2,hc3⟩:=s1.ix hF
  obtain ⟨p3,k2,p4,k3,rfl,s2,s3⟩:=qag hr2
  refine zxe hp1 hq1 he1 rfl (zc 0 (hc3.below h.below) rfl (zcB h hF (qon (qfL y1 (h.oldS s2) (h.oldS s3)) (h.old ha2)) rfl fun r1 w2 h hF=>qcP (qh rfl hF ?_ ?_)))<;>intro hF
  ·refine X0 5 rfl ?_
   obtain rfl:=qb hF;replace hF:=hK1
   exact ri h hF rfl
  exact X0 6 rfl (rK ⟨_,hF,rfl,h⟩ rfl)
 refine qq rfl ?_
 obtain rfl:=qb hF;replace hF:=hK1
 exact X0 4 rfl (ri h hF rfl)
def qbj (n:Nat) (s:(List qF)) (f_0:Int):Option Bool :=
 (qbx n s f_0).bind fun r1 =>
 some (decide (r1 ≥ 0))
theorem qe5 {s:(List qF)} {f_0:Int} (ha1:GoT.R w (old w) s cs1) {p2:Option Addr} (ha2:GoT.R w (old w) (some f_0) [.pointer p2]) {r:Bool} (hF:qbj n s f_0=some r):RetV Tryz.prog 292 [GoT.v (List qF) cs1,.func (.func 306) #[] #[.pointer p2]] w r:=by
 obtain ⟨p1,k1,rfl,s1⟩:=ha1
 obtain ⟨b1,o_1,cs2,rfl,-,hr1,hc1⟩:=PtR.get ha2 rfl
 obtain rfl:=hr1
 exact zV 9 Tryz.func292 rfl fun h=>X0 8 rfl (zcI h hF (qfV ⟨_,_,rfl,(h.oldS s1)⟩ (h.old ha2)) rfl fun r1 w1 h hF=>X0 3 rfl (rb h hF rfl))
def qdq (n:Nat) (c:qw) (kind:Int):Option Bool :=
 (qbj n c.Au kind).bind fun r1 =>
 some r1
theorem qei {c:qw} {kind:Int} (ha1:GoT.R w (old w) c cs1) {r:Bool} (hF:qdq n c kind=some r):RetV Tryz.prog 295 [GoT.v qw cs1,.int .i64 kind] w r:=by
 obtain ⟨p1,k1,p2,k2,p3,k3,rfl,s1,s2,s3⟩:=qac ha1
 exact zV 9 Tryz.func295 rfl fun h=>zSR (qv h rfl rfl fun w1 bb1 h=>qv h rfl rfl fun w2 bb2 h=>X1 7 1 h rfl (zcB h hF (qe5 ⟨_,_,rfl,(h.oldS s2)⟩ (qha (x:=kind) 0 h rfl rfl)) rfl fun r1 w3 h hF=>X0 2 rfl (rb h hF rfl)))
def qbb (a_0:qw):Nat→Int→Int→Option (Int × Int)
 | 0,_,_=>none
 | n+1,i1,i2 =>
  bif decide (i2<(a_0.Bd.length:Int)) then
   (idx a_0.Bd i2).bind fun y1 =>
   bif y1.Br then qbb a_0 n (W64 (i1+1)) (W64 (i2+1)) else
   qbb a_0 n i1 (W64 (i2+1))
  else
   some (i1,i2)
def qgb (n:Nat) (a_0:qw):Option Bool :=
 (qbb a_0 n 0 0).bind fun o=>match o with
 | (i1,_) =>
  bif (a_0.Be==1) then
   bif (i1==0) then
    (qeo n a_0).bind fun r1 =>
    (shlS 1 r1).bind fun y2 =>
    bif ((a_0.Bo.length:Int)==y2) then
     (qbO n a_0.Bo 0 1).bind fun r2 =>
     some r2
    else
     some false
   else
    some false
  else
   bif (a_0.Be==2) then
    bif (i1==1) then
     bif ((a_0.Bo.length:Int)==0) then
      (qdq n a_0 1).bind fun r3 =>
      bif (!r3) then
       (qdq n a_0 2).bind fun r4 =>
       (qdq n a_0 3).bind fun r5 =>
       some (!(r4==r5))
      else
       some false
     else
      some false
    else
     some false
   else
    bif (a_0.Be==3) then
     bif (i1==1) then
      bif ((a_0.Bo.length:Int)==0) then
       (qdq n a_0 1).bind fun r6 =>
       bif r6 then
        (qdq n a_0 2).bind fun r7 =>
        bif r7 then
         (qdq n a_0 3).bind fun r8 =>
         some (!r8)
        else
         some false
       else
        some false
      else
       some false
     else
      some false
    else
     some false
theorem qm3 {a_0:qw} (ha1:GoT.R w (old w) a_0 cs1) {r:Bool} (hF:qgb n a_0=some r):RetV Tryz.prog 282 [GoT.v qw cs1] w r:=by
 obtain ⟨p1,k1,p2,k2,p3,k3,rfl,s1,s2,s3⟩:=qac ha1
 refine zV 83 Tryz.func282 rfl fun h=>zSR (qv h rfl rfl fun w1 bb1 h=>X1 14 0 h rfl ?_)
 obtain ⟨o1,hF,hK1⟩:=qc hF
 refine qm (rL (fun m e w'=>∃ (i1:Int) (i2:Int),qbb a_0 m i1 i2=some o1∧e=[(1,.pointer (some ⟨bb1,0,none⟩)),(3,.int .i64 i1),(7,.slice p1 a_0.Bd.length k1),(8,.int .i64 (a_0.Bd.length:Int)),(9,.int .i64 i2)]∧SH w w' [Ch.box bb1 (qd4 a_0 p1 p2 p3 k1 k2 k3) 168]) n ⟨_,_,hF,rfl,h⟩ rfl ?_)
 rintro m1 e1 w2 ⟨i1,i2,hF,rfl,h⟩
 rcases m1 with _|m1
 ·cases hF
 refine X0 5 rfl (qh rfl hF ?_ ?_)<;>intro hF
 ·refine zKSBSR ?_
  obtain ⟨y1,hy1,hF,he1,b1,_,q1,cs2,hp1,hq1,hr1,hc2⟩:=s1.ix hF
  obtain rfl:=qaX hr1
  refine zxe hp1 hq1 he1 rfl (zc 0 (hc2.below h.below) rfl (qp qa h rfl rfl rfl fun w3 bb2 h=>zs 0 h rfl fun w4 h=>X1 6 0 h rfl (qh rfl hF ?_ ?_)))<;>intro hF
  ·refine X0 10 rfl ?_
   replace h:=h.pick [1] rfl
   exact rK ⟨_,_,hF,rfl,h⟩ rfl
  refine X0 6 rfl ?_
  replace h:=h.pick [1] rfl
  exact rK ⟨_,_,hF,rfl,h⟩ rfl
 refine qq rfl ?_
 obtain rfl:=qb hF;replace hF:=hK1
 refine X1 12 0 h rfl (qh rfl hF ?_ ?_)<;>intro hF
 ·refine qcX (rD (zd3 rfl (qaT (t:=24) hF rfl ?_ ?_)))<;>intro hF
  ·refine Y1 4 0 h rfl ?_
   refine Y1 4 0 h rfl ?_
   refine Y0 1 rfl ?_
   obtain ⟨r1,hr2,hF⟩:=qc hF
   refine qbo r1 (vsI _) (cB 294 rfl) (fun _ hb=>qhy ((h.ext hb).old ha1) hr2) rfl rfl rfl rfl (Y0 1 rfl ?_)
   obtain ⟨y2,hx1,hF⟩:=qc hF
   obtain ⟨g1,hx1⟩:=qsh hx1
   refine d_v (fun _ hb=>qzk g1 rfl rfl) rfl ?_
   rw [hx1]
   refine Y0 4 rfl (qaT (t:=33) hF rfl ?_ ?_)<;>intro hF
   ·refine Y1 4 0 h rfl ?_
    refine Y0 1 rfl ?_
    obtain ⟨r2,hr3,hF⟩:=qc hF
    exact qbo r2 (vsB _) (cB 106 rfl) (fun _ hb=>qb8 ⟨_,_,rfl,((h.ext hb).oldS s3)⟩ hr3) rfl rfl rfl rfl (zd2 rfl (dN h fun w5 h=>rb h hF rfl))
   exact Y0 5 rfl (dN h fun w6 h=>rb h hF rfl)
  exact Y0 14 rfl (dN h fun w7 h=>rb h hF rfl)
 refine X0 5 rfl (qh rfl hF ?_ ?_)<;>intro hF
 ·refine qcX (rD (zd3 rfl (qaT (t:=42) hF rfl ?_ ?_)))<;>intro hF
  ·refine Y1 4 0 h rfl ?_
   refine Y0 6 rfl (qaT (t:=48) hF rfl ?_ ?_)<;>intro hF
   ·refine Y1 2 0 h rfl ?_
    refine Y0 1 rfl ?_
    obtain ⟨r3,hr4,hF⟩:=qc hF
    refine qbo r3 (vsB _) (cB 295 rfl) (fun _ hb=>qei ((h.ext hb).old ha1) hr4) rfl rfl rfl rfl (Y0 4 rfl (qaT (t:=53) hF rfl ?_ ?_))<;>intro hF
    ·refine Y1 2 0 h rfl ?_
     refine Y0 1 rfl ?_
     obtain ⟨r4,hr5,hF⟩:=qc hF
     refine qbo r4 (vsB _) (cB 295 rfl) (fun _ hb=>qei ((h.ext hb).old ha1) hr5) rfl rfl rfl rfl (Y1 2 0 h rfl ?_)
     refine Y0 1 rfl ?_
     obtain ⟨r5,hr6,hF⟩:=qc hF
     exact qbo r5 (vsB _) (cB 295 rfl) (fun _ hb=>qei ((h.ext hb).old ha1) hr6) rfl rfl rfl rfl (Y0 4 rfl (dN h fun w8 h=>rb h hF rfl))
    exact Y0 7 rfl (dN h fun w9 h=>rb h hF rfl)
   exact Y0 12 rfl (dN h fun w10 h=>rb h hF rfl)
  exact Y0 18 rfl (dN h fun w11 h=>rb h hF rfl)
 refine X0 5 rfl (qh rfl hF ?_ ?_)<;>intro hF
 ·refine X0 5 rfl (qk (t:=64) hF rfl ?_ ?_)<;>intro hF
  ·refine X1 10 0 h rfl (qk (t:=70) hF rfl ?_ ?_)<;>intro hF
   ·refine X1 3 0 h rfl (zcB h hF (qei (h.old ha1)) rfl fun r6 w12 h hF=>zp2 rfl (qk (t:=74) hF rfl ?_ ?_))<;>intro hF
    ·refine X1 3 0 h rfl (zcB h hF (qei (h.old ha1)) rfl fun r7 w13 h hF=>zp2 rfl (qk (t:=78) hF rfl ?_ ?_))<;>intro hF
     ·exact X1 3 0 h rfl (zcB h hF (qei (h.old ha1)) rfl fun r8 w14 h hF=>X0 5 rfl (rb h hF rfl))
     exact X0 6 rfl (rb h hF rfl)
    exact X0 10 rfl (rb h hF rfl)
   exact X0 14 rfl (rb h hF rfl)
  exact X0 20 rfl (rb h hF rfl)
 exact X0 6 rfl (rb h hF rfl)
def qlk (n:Nat) (c:qw):Option Bool :=
 (qin n c.Bb).bind fun r1 =>
 bif r1 then
  (qkp n c.Bd).bind fun r2 =>
  bif r2 then
   (qgK n c).bind fun r3 =>
   bif r3 then
    (qaN n c.Ca 0 100000).bind fun r4 =>
    bif r4 then
     (qaN n c.Bu 0 100000).bind fun r5 =>
     bif r5 then
      (qgb n c).bind fun r6 =>
      some r6
     else
      some false
    else
     some false
   else
    some false
  else
   some false
 else
  some false
theorem qrq {c:qw} (ha1:GoT.R w (old w) c cs1) {r:Bool} (hF:qlk n c=some r):RetV Tryz.prog 264 [GoT.v qw cs1] w r:=by
 obtain ⟨p1,k1,p2,k2,p3,k3,rfl,s1,s2,s3⟩:=qac ha1
 refine zV 29 Tryz.func264 rfl fun h=>zSR (qv h rfl rfl fun w1 bb1 h=>X1 6 0 h rfl (zcB h hF qkP rfl fun r1 w2 h hF=>zp1 rfl (qk (t:=6) hF rfl ?_ ?_)))<;>intro hF
 ·refine X1 5 0 h rfl (zcB h hF (qqv ⟨_,_,rfl,(h.oldS s1)⟩) rfl fun r2 w3 h hF=>zp2 rfl (qk (t:=11) hF rfl ?_ ?_))<;>intro hF
  ·refine X1 3 0 h rfl (zcB h hF (qm7 (h.old ha1)) rfl fun r3 w4 h hF=>zp2 rfl (qk (t:=15) hF rfl ?_ ?_))<;>intro hF
   ·refine X1 5 0 h rfl (zcB h hF qaz rfl fun r4 w5 h hF=>zp2 rfl (qk (t:=20) hF rfl ?_ ?_))<;>intro hF
    ·refine X1 5 0 h rfl (zcB h hF qaz rfl fun r5 w6 h hF=>zp2 rfl (qk (t:=25) hF rfl ?_ ?_))<;>intro hF
     ·exact X1 3 0 h rfl (zcB h hF (qm3 (h.old ha1)) rfl fun r6 w7 h hF=>X0 3 rfl (rb h hF rfl))
     exact X0 5 rfl (rb h hF rfl)
    exact X0 10 rfl (rb h hF rfl)
   exact X0 15 rfl (rb h hF rfl)
  exact X0 19 rfl (rb h hF rfl)
 exact X0 24 rfl (rb h hF rfl)
def qcE (l:qn):Nat→(List ByteArray)→Int→Option (Flow Bool ((List ByteArray) × Int))
 | 0,_,_=>none
 | n+1,x1,i1 =>
  bif decide (i1<(l.Ar.length:Int)) then
   (idx l.Ar i1).bind fun y1 =>
   (qlk n y1).bind fun r1 =>
   bif (!r1) then some (.ret false) else
   (appS x1 ([y1.Bb]:List ByteArray)).bind fun x2 =>
   qcE l n x2 (W64 (i1+1))
  else
   some (.nxt (x1,i1))
def qi3 (n:Nat) (l:qn):Option Bool :=
 (qcE l n ([]:List ByteArray) 0).bind fun o=>match o with
 | .ret r=>some r
 | .nxt (x1,_) =>
  bif decide ((l.Ar.length:Int)≤8) then
   (qee n x1).bind fun r2 =>
   some r2
  else
   some false
theorem qoX {l:qn} (ha1:GoT.R w (old w) l cs1) {r:Bool} (hF:qi3 n l=some r):RetV Tryz.prog 239 [GoT.v qn cs1] w r:=by
 obtain ⟨p1,k1,rfl,s1⟩:=qbz ha1
 refine zV 30 Tryz.func239 rfl fun h=>zSR (qv h rfl rfl fun w1 bb1 h=>X1 14 0 h rfl ?_)
 replace h:=h.nil (α:=ByteArray)
 obtain ⟨o1,hF,hK1⟩:=qc hF
 refine qm (rL (fun m e w'=>∃ (S1:Nat→Prop) (p2:Option Addr) (ln1:Nat) (k2:Nat) (x1:(List ByteArray)) (i1:Int),qcE l m x1 i1=some o1∧e=[(1,.pointer (some ⟨bb1,0,none⟩)),(3,.slice p2 ln1 k2),(7,.slice p1 l.Ar.length k1),(8,.int .i64 (l.Ar.length:Int)),(9,.int .i64 i1)]∧SH w w' [Ch.own S1 (x1:List ByteArray) [.slice p2 ln1 k2],Ch.box bb1 [.slice p1 l.Ar.length k1] 44]) n ⟨_,_,_,_,_,_,hF,rfl,h⟩ rfl ?_)
 rintro m1 e1 w2 ⟨S1,p2,ln1,k2,x1,i1,hF,rfl,h⟩
 obtain rfl:=(h.sl 0 rfl).2
 rcases m1 with _|m1
 ·cases hF
 refine X0 5 rfl (qh rfl hF ?_ ?_)<;>intro hF
 ·refine zKSBSR ?_
  obtain ⟨y1,hy1,hF,he1,b1,_,q1,cs2,hp1,hq1,hr1,hc2⟩:=s1.ix hF
  obtain ⟨p3,k3,p4,k4,p5,k5,rfl,s2,s3,s4⟩:=qac hr1
  refine zxe hp1 hq1 he1 rfl (zc 0 (hc2.below h.below) rfl (qp qa h rfl rfl rfl fun w3 bb2 h=>zs 0 h rfl fun w4 h=>X1 5 0 h rfl (zcB h hF (qrq (qkx y1 (h.oldS s2) (h.oldS s3) (h.oldS s4))) rfl fun r1 w5 h hF=>X0 2 rfl (qh rfl hF ?_ ?_))))<;>intro hF
  ·refine X0 4 rfl ?_
   obtain rfl:=qb hF;replace hF:=hK1
   exact rb h hF rfl
  refine X1 5 0 h rfl (qI qa [.tmp 18] _ ([y1.Bb]:List ByteArray) h rfl rfl rfl rfl rfl rfl rfl rfl rfl ⟨rfl,trivial⟩ rfl fun w6 p6 S2 h=>?_)
  obtain ⟨x2,hx1,hF⟩:=qc hF
  obtain ⟨g1,hx1⟩:=qas hx1
  refine qck qa 2 h rfl (h.sl 0 rfl).1 (h.sl 0 rfl).2 rfl rfl rfl rfl rfl rfl rfl rfl rfl g1 hx1 rfl fun w7 p7 k6 S3 h=>X0 7 rfl ?_
  replace h:=h.pick [2,3] rfl
  exact rK ⟨_,_,_,_,_,_,hF,rfl,h⟩ rfl
 refine qq rfl ?_
 obtain rfl:=qb hF;replace hF:=hK1
 refine X1 7 1 h rfl (qk (t:=26) hF rfl ?_ ?_)<;>intro hF
 ·exact X0 3 rfl (zcB h hF (qfC (h.own 0 rfl)) rfl fun r2 w8 h hF=>X0 3 rfl (rb h hF rfl))
 exact X0 5 rfl (rb h hF rfl)
def qbl (d:qd):Nat→(List ByteArray)→Int→Option ((List ByteArray) × Int)
 | 0,_,_=>none
 | n+1,x3,i2 =>
  bif decide (i2<(d.Aj.length:Int)) then
   (idx d.Aj i2).bind fun y2 =>
   (appS x3 ([y2.Bb]:List ByteArray)).bind fun x4 =>
   qbl d n x4 (W64 (i2+1))
  else
   some (x3,i2)
def qbp (d:qd):Nat→(List ByteArray)→Int→Option ((List ByteArray) × Int)
 | 0,_,_=>none
 | n+1,x1,i1 =>
  bif decide (i1<(d.Aa.length:Int)) then
   (idx d.Aa i1).bind fun y1 =>
   (appS x1 ([y1.Bb]:List ByteArray)).bind fun x2 =>
   qbp d n x2 (W64 (i1+1))
  else
   some (x1,i1)
def qe1 (n:Nat) (d:qd):Option Bool :=
 (qbp d n ([]:List ByteArray) 0).bind fun o=>match o with
 | (x1,_) =>
  (qbl d n ([]:List ByteArray) 0).bind fun o=>match o with
  | (x3,_) =>
   bif decide ((x1.length:Int)≤14) then
    bif decide ((d.Ak.length:Int)≤30) then
     bif decide ((x3.length:Int)≤8) then
      (qee n x1).bind fun r1 =>
      bif r1 then
       (qee n d.Ak).bind fun r2 =>
       bif r2 then
        (qee n x3).bind fun r3 =>
        some r3
       else
        some false
      else
       some false
     else
      some false
    else
     some false
   else
    some false
theorem ql8 {d:qd} (ha1:GoT.R w (old w) d cs1) {r:Bool} (hF:qe1 n d=some r):RetV Tryz.prog 240 [GoT.v qd cs1] w r:=by
 obtain ⟨p1,k1,p2,k2,p3,k3,rfl,s1,s2,s3⟩:=qax ha1
 refine zV 62 Tryz.func240 rfl fun h=>zSR (qv h rfl rfl fun w1 bb1 h=>X1 15 0 h rfl ?_)
 replace h:=h.nil (α:=ByteArray)
 obtain ⟨o1,hF,hK1⟩:=qc hF
 refine qm (rL (fun m e w'=>∃ (S1:Nat→Prop) (p4:Option Addr) (ln1:Nat) (k4:Nat) (x1:(List ByteArray)) (i1:Int),qbp d m x1 i1=some o1∧e=[(1,.pointer (some ⟨bb1,0,none⟩)),(3,.slice p4 ln1 k4),(4,.slice none 0 0),(10,.slice p1 d.Aa.length k1),(11,.int .i64 (d.Aa.length:Int)),(12,.int .i64 i1)]∧SH w w' [Ch.own S1 (x1:List ByteArray) [.slice p4 ln1 k4],Ch.box bb1 (qaS d p1 p2 p3 k1 k2 k3) 48]) n ⟨_,_,_,_,_,_,hF,rfl,h⟩ rfl ?_)
 rintro m1 e1 w2 ⟨S1,p4,ln1,k4,x1,i1,hF,rfl,h⟩
 obtain rfl:=(h.sl 0 rfl).2
 rcases m1 with _|m1
 ·cases hF
 refine X0 5 rfl (qh rfl hF ?_ ?_)<;>intro hF
 ·refine zKSBSR ?_
  obtain ⟨y1,hy1,hF,he1,b1,_,q1,cs2,hp1,hq1,hr1,hc2⟩:=s1.ix hF
  obtain ⟨p5,k5,rfl,s4⟩:=qP hr1
  refine zxe hp1 hq1 he1 rfl (zc 0 (hc2.below h.below) rfl (qp qa h rfl rfl rfl fun w3 bb2 h=>zs 0 h rfl fun w4 h=>X1 5 0 h rfl (qI qa [.tmp 18] _ ([y1.Bb]:List ByteArray) h rfl rfl rfl rfl rfl rfl rfl rfl rfl ⟨rfl,trivial⟩ rfl fun w5 p6 S2 h=>?_)))
  obtain ⟨x2,hx1,hF⟩:=qc hF
  obtain ⟨g1,hx1⟩:=qas hx1
  refine qck qa 2 h rfl (h.sl 0 rfl).1 (h.sl 0 rfl).2 rfl rfl rfl rfl rfl rfl rfl rfl rfl g1 hx1 rfl fun w6 p7 k6 S3 h=>X0 7 rfl ?_
  replace h:=h.pick [2,3] rfl
  exact rK ⟨_,_,_,_,_,_,hF,rfl,h⟩ rfl
 refine qq rfl ?_
 obtain rfl:=qb hF;replace hF:=hK1
 refine X1 8 1 h rfl ?_
 replace h:=h.nil (α:=ByteArray)
 obtain ⟨o2,hF,hK2⟩:=qc hF
 refine qm (rL (fun m e w'=>∃ (S4:Nat→Prop) (p8:Option Addr) (ln2:Nat) (k7:Nat) (x3:(List ByteArray)) (i2:Int),qbl d m x3 i2=some o2∧e=[(1,.pointer (some ⟨bb1,0,none⟩)),(3,.slice p4 x1.length k4),(4,.slice p8 ln2 k7),(23,.slice p3 d.Aj.length k3),(24,.int .i64 (d.Aj.length:Int)),(25,.int .i64 i2)]∧SH w w' [Ch.own S4 (x3:List ByteArray) [.slice p8 ln2 k7],Ch.own S1 (x1:List ByteArray) [.slice p4 x1.length k4],Ch.box bb1 (qaS d p1 p2 p3 k1 k2 k3) 48]) n ⟨_,_,_,_,_,_,hF,rfl,h⟩ rfl ?_)
 rintro m2 e2 w7 ⟨S4,p8,ln2,k7,x3,i2,hF,rfl,h⟩
 obtain rfl:=(h.sl 0 rfl).2
 rcases m2 with _|m2
 ·cases hF
 refine X0 5 rfl (qh rfl hF ?_ ?_)<;>intro hF
 ·refine zKSBSR ?_
  obtain ⟨y2,hy2,hF,he2,b2,_,q2,cs3,hp2,hq2,hr2,hc4⟩:=s3.ix hF
  obtain rfl:=qaV hr2
  refine zxe hp2 hq2 he2 rfl (zc 0 (hc4.below h.below) rfl (qp qa h rfl rfl rfl fun w8 bb3 h=>zs 0 h rfl fun w9 h=>X1 5 0 h rfl (qI qa [.tmp 31] _ ([y2.Bb]:List ByteArray) h rfl rfl rfl rfl rfl rfl rfl rfl rfl ⟨rfl,trivial⟩ rfl fun w10 p9 S5 h=>?_)))
  obtain ⟨x4,hx2,hF⟩:=qc hF
  obtain ⟨g2,hx2⟩:=qas hx2
  refine qck qa 2 h rfl (h.sl 0 rfl).1 (h.sl 0 rfl).2 rfl rfl rfl rfl rfl rfl rfl rfl rfl g2 hx2 rfl fun w11 p10 k8 S6 h=>X0 7 rfl ?_
  replace h:=h.pick [2,3,4] rfl
  exact rK ⟨_,_,_,_,_,_,hF,rfl,h⟩ rfl
 refine qq rfl ?_
 obtain rfl:=qb hF;replace hF:=hK2
 refine X0 6 rfl (qk (t:=38) hF rfl ?_ ?_)<;>intro hF
 ·refine X1 10 2 h rfl (qk (t:=44) hF rfl ?_ ?_)<;>intro hF
  ·refine X0 8 rfl (qk (t:=49) hF rfl ?_ ?_)<;>intro hF
   ·refine X0 3 rfl (zcB h hF (qfC (h.own 1 rfl)) rfl fun r1 w12 h hF=>zp2 rfl (qk (t:=53) hF rfl ?_ ?_))<;>intro hF
    ·refine X1 5 2 h rfl (zcB h hF (qfC ⟨_,_,rfl,(h.oldS s2)⟩) rfl fun r2 w13 h hF=>zp2 rfl (qk (t:=58) hF rfl ?_ ?_))<;>intro hF
     ·exact X0 3 rfl (zcB h hF (qfC (h.own 0 rfl)) rfl fun r3 w14 h hF=>X0 3 rfl (rb h hF rfl))
     exact X0 5 rfl (rb h hF rfl)
    exact X0 10 rfl (rb h hF rfl)
   exact X0 14 rfl (rb h hF rfl)
  exact X0 19 rfl (rb h hF rfl)
 exact X0 25 rfl (rb h hF rfl)
def qgF (_:Nat) (list:(List qw)):Option Int :=
 some (list.length:Int)
theorem qlH {list:(List qw)} (ha1:GoT.R w (old w) list cs1) {r:Int} (hF:qgF n list=some r):RetV Tryz.prog 266 [GoT.v (List qw) cs1] w r:=by
 obtain ⟨p1,k1,rfl,s1⟩:=ha1
 exact zV 5 Tryz.func266 rfl fun h=>X0 10 rfl (ri h hF rfl)
def qh5 (_:Nat) (list:(List ByteArray)):Option Int :=
 some (list.length:Int)
theorem qmX {list:(List ByteArray)} (ha1:GoT.R w (old w) list cs1) {r:Int} (hF:qh5 n list=some r):RetV Tryz.prog 268 [GoT.v (List ByteArray) cs1] w r:=by
 obtain ⟨p1,k1,rfl,s1⟩:=ha1
 exact zV 5 Tryz.func268 rfl fun h=>X0 10 rfl (ri h hF rfl)
def qdL (n:Nat) (d:qd) (net:Int):Option Bool :=
 (qh5 n d.Ak).bind fun r1 =>
 (qaN n net 0 (W64 (r1-1))).bind fun r2 =>
 some r2
theorem qgQ {d:qd} {net:Int} (ha1:GoT.R w (old w) d cs1) {r:Bool} (hF:qdL n d net=some r):RetV Tryz.prog 242 [GoT.v qd cs1,.int .i64 net] w r:=by
 obtain ⟨p1,k1,p2,k2,p3,k3,rfl,s1,s2,s3⟩:=qax ha1
 exact zV 11 Tryz.func242 rfl fun h=>zSR (qv h rfl rfl fun w1 bb1 h=>X1 7 0 h rfl (zcI h hF (qmX ⟨_,_,rfl,(h.oldS s2)⟩) rfl fun r1 w2 h hF=>zp1 rfl (zcB h hF qaz rfl fun r2 w3 h hF=>X0 2 rfl (rb h hF rfl))))
def qdo (n:Nat) (net:Int) (v0:qd):Option Bool :=
 (qdL n v0 net).bind fun r1 =>
 some (!r1)
theorem qkr {net:Int} {v0:qd} {p1:Option Addr} (ha1:GoT.R w (old w) (some v0) [.pointer p1]) {r:Bool} (hF:qdo n net v0=some r):RetV Tryz.prog 267 [.int .i64 net,.pointer p1] w r:=by
 obtain ⟨b1,o_1,cs1,rfl,-,hr1,hc1⟩:=PtR.get ha1 rfl
 obtain ⟨p2,k1,p3,k2,p4,k3,rfl,s1,s2,s3⟩:=qax hr1
 exact zV 8 Tryz.func267 rfl fun h=>X0 6 rfl (zc 0 (hc1.below h.below) rfl (zp1 rfl (zcB h hF (qgQ (qau v0 (h.oldS s1) (h.oldS s2) (h.oldS s3))) rfl fun r1 w1 h hF=>X0 3 rfl (rb h hF rfl))))
def qM (s:(List Int)) (f_0:qd):Nat→Int→Option (Flow Int Int)
 | 0,_=>none
 | n+1,i1 =>
  bif decide (i1<(s.length:Int)) then
   (idx s i1).bind fun y1 =>
   (qdo n y1 f_0).bind fun r1 =>
   bif r1 then some (.ret i1) else
   qM s f_0 n (W64 (i1+1))
  else
   some (.nxt i1)
def qa5 (n:Nat) (s:(List Int)) (f_0:qd):Option Int :=
 (qM s f_0 n 0).bind fun o=>match o with
 | .ret r=>some r
 | .nxt _ =>
  some (-1)
theorem qey {s:(List Int)} {f_0:qd} (ha1:GoT.R w (old w) s cs1) {p2:Option Addr} (ha2:GoT.R w (old w) (some f_0) [.pointer p2]) {r:Int} (hF:qa5 n s f_0=some r):RetV Tryz.prog 162 [GoT.v (List Int) cs1,.func (.func 267) #[] #[.pointer p2]] w r:=by
 obtain ⟨p1,k1,rfl,s1⟩:=ha1
 obtain ⟨b1,o_1,cs2,rfl,-,hr1,hc1⟩:=PtR.get ha2 rfl
 obtain ⟨p3,k2,p4,k3,p5,k4,rfl,s2,s3,s4⟩:=qax hr1
 refine zV 19 Tryz.func162 rfl fun h=>X0 11 rfl ?_
 obtain ⟨o1,hF,hK1⟩:=qc hF
 refine qm (rL (fun m e w'=>∃ (i1:Int),qM s f_0 m i1=some o1∧e=[(0,.slice p1 s.length k1),(1,.func (.func 267) #[] #[.pointer (some ⟨b1,o_1,none⟩)]),(7,.int .i64 (s.length:Int)),(8,.int .i64 i1)]∧SH w w' []) n ⟨_,hF,rfl,h⟩ rfl ?_)
 rintro m1 e1 w1 ⟨i1,hF,rfl,h⟩
 rcases m1 with _|m1
 ·cases hF
 refine X0 5 rfl (qh rfl hF ?_ ?_)<;>intro hF
 ·refine X0 13 rfl ?_
  obtain ⟨y1,hy1,hF,he1,b2,_,q1,cs3,hp1,hq1,rfl,hc3⟩:=s1.ix hF
  refine zxe hp1 hq1 he1 rfl (zc 0 (hc3.below h.below) rfl (zcB h hF (qkr (h.old ha2)) rfl fun r1 w2 h hF=>qcP (qh rfl hF ?_ ?_)))<;>intro hF
  ·refine X0 5 rfl ?_
   obtain rfl:=qb hF;replace hF:=hK1
   exact ri h hF rfl
  exact X0 6 rfl (rK ⟨_,hF,rfl,h⟩ rfl)
 refine qq rfl ?_
 obtain rfl:=qb hF;replace hF:=hK1
 exact X0 4 rfl (ri h hF rfl)
def qaU (n:Nat) (s:(List Int)) (f_0:qd):Option Bool :=
 (qa5 n s f_0).bind fun r1 =>
 some (decide (r1 ≥ 0))
theorem qdY {s:(List Int)} {f_0:qd} (ha1:GoT.R w (old w) s cs1) {p2:Option Addr} (ha2:GoT.R w (old w) (some f_0) [.pointer p2]) {r:Bool} (hF:qaU n s f_0=some r):RetV Tryz.prog 110 [GoT.v (List Int) cs1,.func (.func 267) #[] #[.pointer p2]] w r:=by
 obtain ⟨p1,k1,rfl,s1⟩:=ha1
 obtain ⟨b1,o_1,cs2,rfl,-,hr1,hc1⟩:=PtR.get ha2 rfl
 obtain ⟨p3,k2,p4,k3,p5,k4,rfl,s2,s3,s4⟩:=qax hr1
 exact zV 9 Tryz.func110 rfl fun h=>X0 8 rfl (zcI h hF (qey ⟨_,_,rfl,(h.oldS s1)⟩ (h.old ha2)) rfl fun r1 w1 h hF=>X0 3 rfl (rb h hF rfl))
def qd9 (n:Nat) (d:qd) (l:qn) (x:qi):Option Bool :=
 (qgF n l.Ar).bind fun r1 =>
 (qaN n x.Bt 0 (W64 (r1-1))).bind fun r2 =>
 bif r2 then
  (idx l.Ar x.Bt).bind fun y1 =>
  bif ((x.Ak.length:Int)==(y1.Bd.length:Int)) then
   (qaU n x.Ak d).bind fun r3 =>
   some (!r3)
  else
   some false
 else
  some false
theorem qle {d:qd} {l:qn} {x:qi} (ha1:GoT.R w (old w) d cs1) (ha2:GoT.R w (old w) l cs2) (ha3:GoT.R w (old w) x cs3) {r:Bool} (hF:qd9 n d l x=some r):RetV Tryz.prog 241 [GoT.v qd cs1,GoT.v qn cs2,GoT.v qi cs3] w r:=by
 obtain ⟨p1,k1,p2,k2,p3,k3,rfl,s1,s2,s3⟩:=qax ha1
 obtain ⟨p4,k4,rfl,s4⟩:=qbz ha2
 obtain ⟨p5,k5,rfl,s5⟩:=qP ha3
 refine zV 35 Tryz.func241 rfl fun h=>zSR (qv h rfl rfl fun w1 bb1 h=>qv h rfl rfl fun w2 bb2 h=>qv h rfl rfl fun w3 bb3 h=>X0 3 rfl (rD (Y1 2 0 h rfl ?_)))
 refine Y1 2 1 h rfl ?_
 obtain ⟨r1,hr1,hF⟩:=qc hF
 refine qbo r1 (vsI _) (cB 266 rfl) (fun _ hb=>qlH ⟨_,_,rfl,((h.ext hb).oldS s4)⟩ hr1) rfl rfl rfl rfl (zd1 rfl ?_)
 obtain ⟨r2,hr2,hF⟩:=qc hF
 refine qbo r2 (vsB _) (cB 159 rfl) (fun _ hb=>qaz  hr2) rfl rfl rfl rfl (zd1 rfl (qaT (t:=14) hF rfl ?_ ?_))<;>intro hF
 ·refine Y1 4 0 h rfl ?_
  refine Y1 6 1 h rfl ?_
  refine Y1 4 0 h rfl ?_
  refine Y0 1 rfl ?_
  obtain ⟨y1,hy1,hF,he1,b1,_,q1,cs4,hp1,hq1,hr3,hc1⟩:=s4.ix hF
  obtain ⟨p6,k6,p7,k7,p8,k8,rfl,s6,s7,s8⟩:=qac hr3
  refine zdxe hp1 hq1 he1 rfl (Y0 3 rfl (zdc 2 (hc1.below h.below) rfl (Y0 6 rfl (qaT (t:=28) hF rfl ?_ ?_))))<;>intro hF
  ·refine Y1 4 0 h rfl ?_
   refine Y0 3 rfl ?_
   obtain ⟨r3,hr4,hF⟩:=qc hF
   exact qbo r3 (vsB _) (cB 110 rfl) (fun _ hb=>qdY ⟨_,_,rfl,((h.ext hb).oldS s5)⟩ (qha (x:=d) 2 (h.ext hb) rfl ((h.ext hb).old ha1)) hr4) rfl rfl rfl rfl (Y0 4 rfl (dN h fun w4 h=>rb h hF rfl))
  exact Y0 7 rfl (dN h fun w5 h=>rb h hF rfl)
 exact Y0 21 rfl (dN h fun w6 h=>rb h hF rfl)
def qj7 (_:Nat) (a_n:Int):Option Bool :=
 some (a_n != 1)
theorem qow {a_n:Int}  {r:Bool} (hF:qj7 n a_n=some r):RetV Tryz.prog 244 [.int .i64 a_n] w r:=by
 exact zV 5 Tryz.func244 rfl fun h=>X0 10 rfl (rb h hF rfl)
def qao (s:(List Int)):Nat→Int→Option (Flow Int Int)
 | 0,_=>none
 | n+1,i1 =>
  bif decide (i1<(s.length:Int)) then
   (idx s i1).bind fun y1 =>
   (qj7 n y1).bind fun r1 =>
   bif r1 then some (.ret i1) else
   qao s n (W64 (i1+1))
  else
   some (.nxt i1)
def qb3 (n:Nat) (s:(List Int)):Option Int :=
 (qao s n 0).bind fun o=>match o with
 | .ret r=>some r
 | .nxt _ =>
  some (-1)
theorem qgP {s:(List Int)} (ha1:GoT.R w (old w) s cs1) {r:Int} (hF:qb3 n s=some r):RetV Tryz.prog 269 [GoT.v (List Int) cs1,.func (.func 244) #[] #[]] w r:=by
 obtain ⟨p1,k1,rfl,s1⟩:=ha1
 refine zV 19 Tryz.func269 rfl fun h=>X0 11 rfl ?_
 obtain ⟨o1,hF,hK1⟩:=qc hF
 refine qm (rL (fun m e w'=>∃ (i1:Int),qao s m i1=some o1∧e=[(0,.slice p1 s.length k1),(1,.func (.func 244) #[] #[]),(7,.int .i64 (s.length:Int)),(8,.int .i64 i1)]∧SH w w' []) n ⟨_,hF,rfl,h⟩ rfl ?_)
 rintro m1 e1 w1 ⟨i1,hF,rfl,h⟩
 rcases m1 with _|m1
 ·cases hF
 refine X0 5 rfl (qh rfl hF ?_ ?_)<;>intro hF
 ·refine X0 13 rfl ?_
  obtain ⟨y1,hy1,hF,he1,b1,_,q1,cs2,hp1,hq1,rfl,hc2⟩:=s1.ix hF
  refine zxe hp1 hq1 he1 rfl (zc 0 (hc2.below h.below) rfl (zcB h hF qow rfl fun r1 w2 h hF=>qcP (qh rfl hF ?_ ?_)))<;>intro hF
  ·refine X0 5 rfl ?_
   obtain rfl:=qb hF;replace hF:=hK1
   exact ri h hF rfl
  exact X0 6 rfl (rK ⟨_,hF,rfl,h⟩ rfl)
 refine qq rfl ?_
 obtain rfl:=qb hF;replace hF:=hK1
 exact X0 4 rfl (ri h hF rfl)
def qbJ (n:Nat) (s:(List Int)):Option Bool :=
 (qb3 n s).bind fun r1 =>
 some (decide (r1 ≥ 0))
theorem qgc {s:(List Int)} (ha1:GoT.R w (old w) s cs1) {r:Bool} (hF:qbJ n s=some r):RetV Tryz.prog 243 [GoT.v (List Int) cs1,.func (.func 244) #[] #[]] w r:=by
 obtain ⟨p1,k1,rfl,s1⟩:=ha1
 exact zV 9 Tryz.func243 rfl fun h=>X0 8 rfl (zcI h hF (qgP ⟨_,_,rfl,(h.oldS s1)⟩) rfl fun r1 w1 h hF=>X0 3 rfl (rb h hF rfl))
def qcx (a_1:qd):Nat→(List Int)→Int→Option (Flow Bool ((List Int) × Int))
 | 0,_,_=>none
 | n+1,x3,i2 =>
  bif decide (i2<(a_1.Aj.length:Int)) then
   (idx a_1.Aj i2).bind fun y5 =>
   (
    bif (y5.Bv != 1) then
     bif (y5.Bv != 2) then some true else
     (qdL n a_1 y5.Bx).bind fun r2 =>
     some (!r2)
    else
     (qdL n a_1 y5.Bx).bind fun r3 =>
     some (!r3)).bind fun b7 =>
   bif b7 then some (.ret false) else
   bif (y5.Bv==1) then
    (idx x3 y5.Bx).bind fun y6 =>
    (idx x3 y5.Bx).bind fun _ =>
    qcx a_1 n (setS x3 y5.Bx (W64 (y6+1))) (W64 (i2+1))
   else
    qcx a_1 n x3 (W64 (i2+1))
  else
   some (.nxt (x3,i2))
def qdc (a_0:qn) (a_1:qd):Nat→(List Int)→Int→Option (Flow Bool ((List Int) × Int))
 | 0,_,_=>none
 | n+1,x2,i1 =>
  bif decide (i1<(a_1.Aa.length:Int)) then
   (idx a_1.Aa i1).bind fun y1 =>
   (qd9 n a_1 a_0 y1).bind fun r1 =>
   bif (!r1) then some (.ret false) else
   (idx y1.Ak (W64 ((y1.Ak.length:Int)-1))).bind fun y2 =>
   (idx x2 y2).bind fun y3 =>
   (idx x2 y2).bind fun _ =>
   qdc a_0 a_1 n (setS x2 y2 (W64 (y3+1))) (W64 (i1+1))
  else
   some (.nxt (x2,i1))
def qjx (n:Nat) (a_0:qn) (a_1:qd):Option Bool :=
 (
  (qi3 n a_0).bind fun r5 =>
  bif (!r5) then some true else
  (qe1 n a_1).bind fun r6 =>
  some (!r6)).bind fun b1 =>
 bif b1 then some false else
 (mkS (a_1.Ak.length:Int) (0:Int)).bind fun x1 =>
 (qdc a_0 a_1 n x1 0).bind fun o=>match o with
 | .ret r=>some r
 | .nxt (x2,_) =>
  (qcx a_1 n x2 0).bind fun o=>match o with
  | .ret r=>some r
  | .nxt (x3,_) =>
   (qbJ n x3).bind fun r4 =>
   some (!r4)
theorem qpO {a_0:qn} {a_1:qd} (ha1:GoT.R w (old w) a_0 cs1) (ha2:GoT.R w (old w) a_1 cs2) {r:Bool} (hF:qjx n a_0 a_1=some r):RetV Tryz.prog 211 [GoT.v qn cs1,GoT.v qd cs2] w r:=by
 obtain ⟨p1,k1,rfl,s1⟩:=qbz ha1
 obtain ⟨p2,k2,p3,k3,p4,k4,rfl,s2,s3,s4⟩:=qax ha2
 refine zV 84 Tryz.func211 rfl fun h=>zSR (qv h rfl rfl fun w1 bb1 h=>qv h rfl rfl fun w2 bb2 h=>X0 4 rfl ?_)
 obtain ⟨KF2,hKF2,o4,hF,hK4⟩:=bindE hF
 refine qba (fun e w'=>∃ (b1:Bool),KF2 b1=some r∧e=[(2,.pointer (some ⟨bb1,0,none⟩)),(3,.pointer (some ⟨bb2,0,none⟩)),(17,.bool b1)]∧SH w w' [Ch.box bb2 (qaS a_1 p2 p3 p4 k2 k3 k4) 48,Ch.box bb1 [.slice p1 a_0.Ar.length k1] 44]) ?_ ?_
 ·refine X1 2 1 h rfl (zcB h hF (qoX (h.old ha1)) rfl fun r5 w17 h hF=>zp2 rfl (qk (t:=13) hF rfl ?_ ?_))<;>intro hF
  ·refine X0 5 rfl ?_
   obtain rfl:=qb hF
   exact rG ⟨_,hK4,rfl,h⟩ rfl
  refine X1 3 0 h rfl (zcB h hF (ql8 (h.old ha2)) rfl fun r6 w18 h hF=>X0 4 rfl ?_)
  obtain rfl:=qb hF
  exact rG ⟨_,hK4,rfl,h⟩ rfl
 rintro e4 w19 ⟨b1,hF,rfl,h⟩
 subst hKF2
 refine qh rfl hF ?_ ?_<;>intro hF
 ·exact X0 4 rfl (rb h hF rfl)
 refine X1 6 0 h rfl ?_
 obtain ⟨x1,hx1,hF⟩:=qc hF
 obtain ⟨g1,g2,hx1⟩:=qU hx1
 refine qam qa Int h rfl rfl rfl rfl rfl rfl rfl rfl rfl g1 g2 hx1 rfl fun w3 S1 p5 h=>X1 10 1 h rfl ?_
 obtain ⟨o1,hF,hK1⟩:=qc hF
 refine qm (rL (fun m e w'=>∃ (x2:(List Int)) (i1:Int),qdc a_0 a_1 m x2 i1=some o1∧e=[(2,.pointer (some ⟨bb1,0,none⟩)),(3,.pointer (some ⟨bb2,0,none⟩)),(5,.slice p5 x1.length x1.length),(23,.slice p2 a_1.Aa.length k2),(24,.int .i64 (a_1.Aa.length:Int)),(25,.int .i64 i1)]∧SH w w' [Ch.own S1 (x2:List Int) [.slice p5 x1.length x1.length],Ch.box bb2 (qaS a_1 p2 p3 p4 k2 k3 k4) 48,Ch.box bb1 [.slice p1 a_0.Ar.length k1] 44]) n ⟨_,_,hF,rfl,h⟩ rfl ?_)
 rintro m1 e1 w4 ⟨x2,i1,hF,rfl,h⟩
 rcases m1 with _|m1
 ·cases hF
 refine X0 5 rfl (qh rfl hF ?_ ?_)<;>intro hF
 ·refine zKSBSR ?_
  obtain ⟨y1,hy1,hF,he1,b2,_,q1,cs3,hp1,hq1,hr1,hc3⟩:=s2.ix hF
  obtain ⟨p6,k5,rfl,s5⟩:=qP hr1
  refine zxe hp1 hq1 he1 rfl (zc 0 (hc3.below h.below) rfl (qp qa h rfl rfl rfl fun w5 bb3 h=>zs 0 h rfl fun w6 h=>X3 7 2 3 0 h rfl (zcB h hF (qle (h.old ha2) (h.old ha1) (qgB y1 (h.oldS s5))) rfl fun r1 w7 h hF=>X0 2 rfl (qh rfl hF ?_ ?_))))<;>intro hF
  ·refine X0 4 rfl ?_
   obtain rfl:=qb hF;replace hF:=hK1
   exact rb h hF rfl
  refine X2 9 0 0 h rfl ?_
  obtain ⟨y2,hy2,hF,he2,b3,_,q2,cs4,hp2,hq2,rfl,hc5⟩:=s5.ix hF
  refine zxe hp2 hq2 he2 rfl (zc 0 (hc5.below h.below) rfl ?_)
  obtain ⟨y3,hy3,hF,he3,b4,_,q3,cs5,hp3,hq3,rfl,hc6⟩:=(h.sl 1 rfl).1.ix hF
  refine zx hp3 hq3 ⟨he3.1,qC he3.2.1 (h.sl 1 rfl).2⟩ rfl (zc 0 hc6 rfl (zp1 rfl ?_))
  obtain ⟨y4,hy4,hF,he4,b5,_,q4,cs6,hp4,hq4,rfl,hc7⟩:=(h.sl 1 rfl).1.ix hF
  refine zx hp4 hq4 ⟨he4.1,qC he4.2.1 (h.sl 1 rfl).2⟩ rfl (qay qa 1 0 (W64 (y3+1)) h rfl hy4 hp4 hq4 rfl hc7 rfl rfl rfl rfl rfl rfl rfl fun w8 h=>X0 6 rfl ?_)
  replace h:=h.pick [1,2,3] rfl
  exact rK ⟨_,_,hF,rfl,h⟩ rfl
 refine qq rfl ?_
 obtain rfl:=qb hF;replace hF:=hK1
 refine X1 8 1 h rfl ?_
 obtain ⟨o2,hF,hK2⟩:=qc hF
 refine qm ?_
 replace h:=h.pick [0,1] rfl
 refine rL (fun m e w'=>∃ (x3:(List Int)) (i2:Int),qcx a_1 m x3 i2=some o2∧e=[(3,.pointer (some ⟨bb2,0,none⟩)),(5,.slice p5 x1.length x1.length),(49,.slice p4 a_1.Aj.length k4),(50,.int .i64 (a_1.Aj.length:Int)),(51,.int .i64 i2)]∧SH w w' [Ch.own S1 (x3:List Int) [.slice p5 x1.length x1.length],Ch.box bb2 (qaS a_1 p2 p3 p4 k2 k3 k4) 48]) n ⟨_,_,hF,rfl,h⟩ rfl ?_
 rintro m2 e2 w9 ⟨x3,i2,hF,rfl,h⟩
 rcases m2 with _|m2
 ·cases hF
 refine X0 5 rfl (qh rfl hF ?_ ?_)<;>intro hF
 ·refine zKSBSR ?_
  obtain ⟨y5,hy5,hF,he5,b6,_,q5,cs7,hp5,hq5,hr6,hc9⟩:=s4.ix hF
  obtain rfl:=qaV hr6
  refine zxe hp5 hq5 he5 rfl (zc 0 (hc9.below h.below) rfl (qp qa h rfl rfl rfl fun w10 bb4 h=>zs 0 h rfl fun w11 h=>zNSS ?_))
  obtain ⟨KF1,hKF1,o3,hF,hK3⟩:=bindE hF
  refine qba (fun e w'=>∃ (b7:Bool),KF1 b7=some o2∧e=[(3,.pointer (some ⟨bb2,0,none⟩)),(5,.slice p5 x1.length x1.length),(9,.pointer (some ⟨bb4,0,none⟩)),(49,.slice p4 a_1.Aj.length k4),(50,.int .i64 (a_1.Aj.length:Int)),(51,.int .i64 i2),(69,.bool b7)]∧SH w w' [Ch.box bb4 (qqO y5) 245,Ch.own S1 (x3:List Int) [.slice p5 x1.length x1.length],Ch.box bb2 (qaS a_1 p2 p3 p4 k2 k3 k4) 48]) ?_ ?_
  ·refine X1 5 0 h rfl (qk (t:=58) hF rfl ?_ ?_)<;>intro hF
   ·refine X1 8 0 h rfl (qk (t:=63) hF rfl ?_ ?_)<;>intro hF
    ·refine X0 7 rfl ?_
     obtain rfl:=qb hF
     exact rG ⟨_,hK3,rfl,h⟩ rfl
    refine X2 7 2 0 h rfl (zcB h hF (qgQ (h.old ha2)) rfl fun r2 w13 h hF=>X0 4 rfl ?_)
    obtain rfl:=qb hF
    exact rG ⟨_,hK3,rfl,h⟩ rfl
   refine X2 12 2 0 h rfl (zcB h hF (qgQ (h.old ha2)) rfl fun r3 w14 h hF=>X0 4 rfl ?_)
   obtain rfl:=qb hF
   exact rG ⟨_,hK3,rfl,h⟩ rfl
  rintro e3 w15 ⟨b7,hF,rfl,h⟩
  subst hKF1
  refine qh rfl hF ?_ ?_<;>intro hF
  ·refine X0 4 rfl ?_
   obtain rfl:=qb hF;replace hF:=hK2
   exact rb h hF rfl
  refine X1 7 0 h rfl (qh rfl hF ?_ ?_)<;>intro hF
  ·refine X1 4 0 h rfl ?_
   obtain ⟨y6,hy6,hF,he6,b8,_,q6,cs8,hp6,hq6,rfl,hc12⟩:=(h.sl 1 rfl).1.ix hF
   refine zx hp6 hq6 ⟨he6.1,qC he6.2.1 (h.sl 1 rfl).2⟩ rfl (zc 0 hc12 rfl (zp1 rfl ?_))
   obtain ⟨y7,hy7,hF,he7,b9,_,q7,cs9,hp7,hq7,rfl,hc13⟩:=(h.sl 1 rfl).1.ix hF
   refine zx hp7 hq7 ⟨he7.1,qC he7.2.1 (h.sl 1 rfl).2⟩ rfl (qay qa 1 0 (W64 (y6+1)) h rfl hy7 hp7 hq7 rfl hc13 rfl rfl rfl rfl rfl rfl rfl fun w12 h=>X0 6 rfl ?_)
   replace h:=h.pick [1,2] rfl
   exact rK ⟨_,_,hF,rfl,h⟩ rfl
  refine X0 6 rfl ?_
  replace h:=h.pick [1,2] rfl
  exact rK ⟨_,_,hF,rfl,h⟩ rfl
 refine qq rfl ?_
 obtain rfl:=qb hF;replace hF:=hK2
 exact X0 3 rfl (zcB h hF (qgc (h.own 0 rfl)) rfl fun r4 w16 h hF=>X0 3 rfl (rb h hF rfl))
def qbD (i1:Int) (y1:qi):Nat→(List Tplace)→Int→Option ((List Tplace) × Int)
 | 0,_,_=>none
 | n+1,x2,i2 =>
  bif decide (i2<(y1.Ak.length:Int)) then
   (idx y1.Ak i2).bind fun y2 =>
   (appS x2 ([(⟨i1,i2,y2,(i2==(W64 ((y1.Ak.length:Int)-1)))⟩:Tplace)]:List Tplace)).bind fun x3 =>
   qbD i1 y1 n x3 (W64 (i2+1))
  else
   some (x2,i2)
def qbC (d:qd):Nat→(List Tplace)→Int→Option ((List Tplace) × Int)
 | 0,_,_=>none
 | n+1,x4,i3 =>
  bif decide (i3<(d.Aj.length:Int)) then
   (idx d.Aj i3).bind fun y3 =>
   (appS x4 ([(⟨(-1),i3,y3.Bx,(y3.Bv==1)⟩:Tplace)]:List Tplace)).bind fun x5 =>
   qbC d n x5 (W64 (i3+1))
  else
   some (x4,i3)
def qbG (d:qd):Nat→(List Tplace)→Int→Option ((List Tplace) × Int)
 | 0,_,_=>none
 | n+1,x1,i1 =>
  bif decide (i1<(d.Aa.length:Int)) then
   (idx d.Aa i1).bind fun y1 =>
   (qbD i1 y1 n x1 0).bind fun o=>match o with
   | (x2,_) =>
    qbG d n x2 (W64 (i1+1))
  else
   some (x1,i1)
def qcm (n:Nat) (d:qd):Option (List Tplace) :=
 (qbG d n ([]:List Tplace) 0).bind fun o=>match o with
 | (x1,_) =>
  (qbC d n x1 0).bind fun o=>match o with
  | (x4,_) =>
   some x4
theorem qeL {d:qd} (ha1:GoT.R w (old w) d cs1) {r:(List Tplace)} (hF:qcm n d=some r):RetV Tryz.prog 212 [GoT.v qd cs1] w r:=by
 obtain ⟨p1,k1,p2,k2,p3,k3,rfl,s1,s2,s3⟩:=qax ha1
 refine zV 61 Tryz.func212 rfl fun h=>zSR (qv h rfl rfl fun w1 bb1 h=>X1 14 0 h rfl ?_)
 replace h:=h.nil (α:=Tplace)
 obtain ⟨o1,hF,hK1⟩:=qc hF
 refine qm (rL (fun m e w'=>∃ (S1:Nat→Prop) (p4:Option Addr) (ln1:Nat) (k4:Nat) (x1:(List Tplace)) (i1:Int),qbG d m x1 i1=some o1∧e=[(1,.pointer (some ⟨bb1,0,none⟩)),(3,.slice p4 ln1 k4),(11,.slice p1 d.Aa.length k1),(12,.int .i64 (d.Aa.length:Int)),(13,.int .i64 i1)]∧SH w w' [Ch.own S1 (x1:List Tplace) [.slice p4 ln1 k4],Ch.box bb1 (qaS d p1 p2 p3 k1 k2 k3) 48]) n ⟨_,_,_,_,_,_,hF,rfl,h⟩ rfl ?_)
 rintro m1 e1 w2 ⟨S1,p4,ln1,k4,x1,i1,hF,rfl,h⟩
 obtain rfl:=(h.sl 0 rfl).2
 rcases m1 with _|m1
 ·cases hF
 refine X0 5 rfl (qh rfl hF ?_ ?_)<;>intro hF
 ·refine X0 6 rfl ?_
  obtain ⟨y1,hy1,hF,he1,b1,_,q1,cs2,hp1,hq1,hr1,hc2⟩:=s1.ix hF
  obtain ⟨p5,k5,rfl,s4⟩:=qP hr1
  refine zxe hp1 hq1 he1 rfl (zc 0 (hc2.below h.below) rfl (qp qa h rfl rfl rfl fun w3 bb2 h=>zp1 rfl (zs 0 h rfl fun w4 h=>X1 8 0 h rfl ?_)))
  obtain ⟨o2,hF,hK2⟩:=qc hF
  refine qm (rL (fun m e w'=>∃ (S2:Nat→Prop) (p6:Option Addr) (ln2:Nat) (k6:Nat) (x2:(List Tplace)) (i2:Int),qbD i1 y1 m x2 i2=some o2∧e=[(1,.pointer (some ⟨bb1,0,none⟩)),(3,.slice p6 ln2 k6),(4,.int .i64 i1),(5,.pointer (some ⟨bb2,0,none⟩)),(11,.slice p1 d.Aa.length k1),(12,.int .i64 (d.Aa.length:Int)),(13,.int .i64 i1),(19,.slice p5 y1.Ak.length k5),(20,.int .i64 (y1.Ak.length:Int)),(21,.int .i64 i2)]∧SH w w' [Ch.box bb2 (qjN y1 p5 k5) 170,Ch.own S2 (x2:List Tplace) [.slice p6 ln2 k6],Ch.box bb1 (qaS d p1 p2 p3 k1 k2 k3) 48]) m1 ⟨_,_,_,_,_,_,hF,rfl,h⟩ rfl ?_)
  rintro m2 e2 w5 ⟨S2,p6,ln2,k6,x2,i2,hF,rfl,h⟩
  obtain rfl:=(h.sl 1 rfl).2
  rcases m2 with _|m2
  ·cases hF
  refine X0 5 rfl (qh rfl hF ?_ ?_)<;>intro hF
  ·refine X0 6 rfl ?_
   obtain ⟨y2,hy2,hF,he2,b2,_,q2,cs3,hp2,hq2,rfl,hc4⟩:=s4.ix hF
   refine zxe hp2 hq2 he2 rfl (zc 0 (hc4.below h.below) rfl (X1 14 0 h rfl (r_v (qZ qa [0,1,2,3] [.tmp 27,.tmp 28,.tmp 29,.tmp 35] rfl rfl rfl rfl rfl rfl rfl rfl) rfl (qI qa [.tmp 36] _ ([(⟨i1,i2,y2,(i2==(W64 ((y1.Ak.length:Int)-1)))⟩:Tplace)]:List Tplace) h rfl rfl rfl rfl rfl rfl rfl rfl rfl ⟨(qmv (⟨i1,i2,y2,(i2==(W64 ((y1.Ak.length:Int)-1)))⟩:Tplace)),trivial⟩ rfl fun w6 p7 S3 h=>?_))))
   obtain ⟨x3,hx1,hF⟩:=qc hF
   obtain ⟨g1,hx1⟩:=qas hx1
   refine qck qa 2 h rfl (h.sl 0 rfl).1 (h.sl 0 rfl).2 rfl rfl rfl rfl rfl rfl rfl rfl rfl g1 hx1 rfl fun w7 p8 k7 S4 h=>X0 7 rfl ?_
   replace h:=h.pick [1,2,3] rfl
   exact rK ⟨_,_,_,_,_,_,hF,rfl,h⟩ rfl
  refine qq rfl ?_
  obtain rfl:=qb hF;replace hF:=hK2
  refine X0 5 rfl ?_
  replace h:=h.pick [1,2] rfl
  exact rK ⟨_,_,_,_,_,_,hF,rfl,h⟩ rfl
 refine qq rfl ?_
 obtain rfl:=qb hF;replace hF:=hK1
 refine X1 8 1 h rfl ?_
 obtain ⟨o3,hF,hK3⟩:=qc hF
 refine qm ?_
 replace h:=h.pick [0] rfl
 refine rL (fun m e w'=>∃ (S5:Nat→Prop) (p9:Option Addr) (ln3:Nat) (k8:Nat) (x4:(List Tplace)) (i3:Int),qbC d m x4 i3=some o3∧e=[(3,.slice p9 ln3 k8),(42,.slice p3 d.Aj.length k3),(43,.int .i64 (d.Aj.length:Int)),(44,.int .i64 i3)]∧SH w w' [Ch.own S5 (x4:List Tplace) [.slice p9 ln3 k8]]) n ⟨_,_,_,_,_,_,hF,rfl,h⟩ rfl ?_
 rintro m3 e3 w8 ⟨S5,p9,ln3,k8,x4,i3,hF,rfl,h⟩
 obtain rfl:=(h.sl 0 rfl).2
 rcases m3 with _|m3
 ·cases hF
 refine X0 5 rfl (qh rfl hF ?_ ?_)<;>intro hF
 ·refine X0 6 rfl ?_
  obtain ⟨y3,hy3,hF,he3,b3,_,q3,cs4,hp3,hq3,hr3,hc6⟩:=s3.ix hF
  obtain rfl:=qaV hr3
  refine zxe hp3 hq3 he3 rfl (zc 0 (hc6.below h.below) rfl (qp qa h rfl rfl rfl fun w9 bb3 h=>zp1 rfl (zs 0 h rfl fun w10 h=>X2 9 0 0 h rfl (r_v (qZ qa [0,1,2,3] [.const (.int .i64 (-1)),.tmp 50,.tmp 52,.tmp 55] rfl rfl rfl rfl rfl rfl rfl rfl) rfl (qI qa [.tmp 56] _ ([(⟨(-1),i3,y3.Bx,(y3.Bv==1)⟩:Tplace)]:List Tplace) h rfl rfl rfl rfl rfl rfl rfl rfl rfl ⟨(qmv (⟨(-1),i3,y3.Bx,(y3.Bv==1)⟩:Tplace)),trivial⟩ rfl fun w11 p10 S6 h=>?_)))))
  obtain ⟨x5,hx2,hF⟩:=qc hF
  obtain ⟨g2,hx2⟩:=qas hx2
  refine qck qa 2 h rfl (h.sl 0 rfl).1 (h.sl 0 rfl).2 rfl rfl rfl rfl rfl rfl rfl rfl rfl g2 hx2 rfl fun w12 p11 k9 S7 h=>X0 7 rfl ?_
  replace h:=h.pick [2] rfl
  exact rK ⟨_,_,_,_,_,_,hF,rfl,h⟩ rfl
 refine qq rfl ?_
 obtain rfl:=qb hF;replace hF:=hK3
 refine X0 5 rfl ?_
 obtain rfl:=qb hF
 exact rO 0 h rfl ⟨rfl,trivial⟩
def qbc (a_w:qD):Nat→Int→Option (Flow Bool Int)
 | 0,_=>none
 | n+1,i1 =>
  bif decide (i1<(a_w.Am.length:Int)) then
   (idx a_w.Am i1).bind fun y1 =>
   bif (i1==0) then
    bif (y1 != (-1)) then some (.ret false) else
    (idx a_w.Bw 0).bind fun y2 =>
    bif (y2 != 0) then some (.ret false) else
    bif decide (i1 > 0) then
     (qaN n y1 0 (W64 (i1-1))).bind fun r1 =>
     bif (!r1) then some (.ret false) else
     qbc a_w n (W64 (i1+1))
    else
     qbc a_w n (W64 (i1+1))
   else
    bif decide (i1 > 0) then
     (qaN n y1 0 (W64 (i1-1))).bind fun r2 =>
     bif (!r2) then some (.ret false) else
     qbc a_w n (W64 (i1+1))
    else
     qbc a_w n (W64 (i1+1))
  else
   some (.nxt i1)
def qhb (n:Nat) (a_w:qD):Option Bool :=
 (qbc a_w n 0).bind fun o=>match o with
 | .ret r=>some r
 | .nxt _ =>
  some true
theorem qn1 {a_w:qD} (ha1:GoT.R w (old w) a_w cs1) {r:Bool} (hF:qhb n a_w=some r):RetV Tryz.prog 245 [GoT.v qD cs1] w r:=by
 obtain ⟨p1,k1,p2,k2,p3,k3,p4,k4,rfl,s1,s2,s3,s4⟩:=qaM ha1
 refine zV 38 Tryz.func245 rfl fun h=>zSR (qv h rfl rfl fun w1 bb1 h=>X1 10 0 h rfl ?_)
 obtain ⟨o1,hF,hK1⟩:=qc hF
 refine qm (rL (fun m e w'=>∃ (i1:Int),qbc a_w m i1=some o1∧e=[(1,.pointer (some ⟨bb1,0,none⟩)),(6,.slice p1 a_w.Am.length k1),(7,.int .i64 (a_w.Am.length:Int)),(8,.int .i64 i1)]∧SH w w' [Ch.box bb1 (qgN a_w p1 p2 p3 p4 k1 k2 k3 k4) 186]) n ⟨_,hF,rfl,h⟩ rfl ?_)
 rintro m1 e1 w2 ⟨i1,hF,rfl,h⟩
 rcases m1 with _|m1
 ·cases hF
 refine X0 5 rfl (qh rfl hF ?_ ?_)<;>intro hF
 ·refine X0 6 rfl ?_
  obtain ⟨y1,hy1,hF,he1,b1,_,q1,cs2,hp1,hq1,rfl,hc2⟩:=s1.ix hF
  refine zxe hp1 hq1 he1 rfl (zc 0 (hc2.below h.below) rfl (X0 8 rfl (qk (t:=15) hF rfl ?_ ?_)))<;>intro hF
  ·refine X0 6 rfl (qk (t:=18) hF rfl ?_ ?_)<;>intro hF
   ·refine X0 20 rfl (qbU rfl rfl (X0 4 rfl ?_))
    obtain rfl:=qb hF;replace hF:=hK1
    exact rb h hF rfl
   refine X1 5 0 h rfl ?_
   obtain ⟨y2,hy2,hF,he2,b2,_,q2,cs3,hp2,hq2,rfl,hc3⟩:=s2.ix hF
   refine zxe hp2 hq2 he2 rfl (X0 1 rfl (zc 0 (hc3.below h.below) rfl (X0 6 rfl (qk (t:=26) hF rfl ?_ ?_))))<;>intro hF
   ·refine X0 11 rfl (qbU rfl rfl (X0 4 rfl ?_))
    obtain rfl:=qb hF;replace hF:=hK1
    exact rb h hF rfl
   refine X0 6 rfl (qk (t:=29) hF rfl ?_ ?_)<;>intro hF
   ·refine X0 7 rfl (zcB h hF qaz rfl fun r1 w3 h hF=>X0 6 rfl (qh rfl hF ?_ ?_))<;>intro hF
    ·refine X0 4 rfl ?_
     obtain rfl:=qb hF;replace hF:=hK1
     exact rb h hF rfl
    exact X0 6 rfl (rK ⟨_,hF,rfl,h⟩ rfl)
   exact X0 9 rfl (qbV rfl rfl (X0 6 rfl (rK ⟨_,hF,rfl,h⟩ rfl)))
  refine X0 17 rfl (qk (t:=29) hF rfl ?_ ?_)<;>intro hF
  ·refine X0 7 rfl (zcB h hF qaz rfl fun r2 w4 h hF=>X0 6 rfl (qh rfl hF ?_ ?_))<;>intro hF
   ·refine X0 4 rfl ?_
    obtain rfl:=qb hF;replace hF:=hK1
    exact rb h hF rfl
   exact X0 6 rfl (rK ⟨_,hF,rfl,h⟩ rfl)
  exact X0 9 rfl (qbV rfl rfl (X0 6 rfl (rK ⟨_,hF,rfl,h⟩ rfl)))
 refine qq rfl ?_
 obtain rfl:=qb hF;replace hF:=hK1
 exact X0 4 rfl (rb h hF rfl)
def qlo (n:Nat) (a_w:qD) (sinks:Int):Option Bool :=
 (qbr n a_w.Am).bind fun r1 =>
 (qaN n r1 1 8).bind fun r2 =>
 bif r2 then
  (qbr n a_w.Bw).bind fun r3 =>
  bif (r3==r1) then
   (qbr n a_w.Bs).bind fun r4 =>
   bif (r4==r1) then
    (qhb n a_w).bind fun r5 =>
    bif r5 then
     (qbO n a_w.Bw 0 1000).bind fun r6 =>
     bif r6 then
      (qbO n a_w.Bs 0 500).bind fun r7 =>
      bif r7 then
       (qbr n a_w.Bl).bind fun r8 =>
       bif (r8==sinks) then
        (qbO n a_w.Bl 0 (W64 (r1-1))).bind fun r9 =>
        some r9
       else
        some false
      else
       some false
     else
      some false
    else
     some false
   else
    some false
  else
   some false
 else
  some false
theorem qq2 {a_w:qD} {sinks:Int} (ha1:GoT.R w (old w) a_w cs1) {r:Bool} (hF:qlo n a_w sinks=some r):RetV Tryz.prog 213 [GoT.v qD cs1,.int .i64 sinks] w r:=by
 obtain ⟨p1,k1,p2,k2,p3,k3,p4,k4,rfl,s1,s2,s3,s4⟩:=qaM ha1
 refine zV 53 Tryz.func213 rfl fun h=>zSR (qv h rfl rfl fun w1 bb1 h=>X1 6 0 h rfl (zcI h hF (qcz ⟨_,_,rfl,(h.oldS s1)⟩) rfl fun r1 w2 h hF=>X0 5 rfl (zcB h hF qaz rfl fun r2 w3 h hF=>zp1 rfl (qk (t:=11) hF rfl ?_ ?_))))<;>intro hF
 ·refine X1 5 0 h rfl (zcI h hF (qcz ⟨_,_,rfl,(h.oldS s2)⟩) rfl fun r3 w4 h hF=>X0 6 rfl (qk (t:=18) hF rfl ?_ ?_))<;>intro hF
  ·refine X1 5 0 h rfl (zcI h hF (qcz ⟨_,_,rfl,(h.oldS s3)⟩) rfl fun r4 w5 h hF=>X0 6 rfl (qk (t:=25) hF rfl ?_ ?_))<;>intro hF
   ·refine X1 3 0 h rfl (zcB h hF (qn1 (h.old ha1)) rfl fun r5 w6 h hF=>zp2 rfl (qk (t:=29) hF rfl ?_ ?_))<;>intro hF
    ·refine X1 5 0 h rfl (zcB h hF (qb8 ⟨_,_,rfl,(h.oldS s2)⟩) rfl fun r6 w7 h hF=>zp2 rfl (qk (t:=34) hF rfl ?_ ?_))<;>intro hF
     ·refine X1 5 0 h rfl (zcB h hF (qb8 ⟨_,_,rfl,(h.oldS s3)⟩) rfl fun r7 w8 h hF=>zp2 rfl (qk (t:=39) hF rfl ?_ ?_))<;>intro hF
      ·refine X1 5 0 h rfl (zcI h hF (qcz ⟨_,_,rfl,(h.oldS s4)⟩) rfl fun r8 w9 h hF=>X0 6 rfl (qk (t:=46) hF rfl ?_ ?_))<;>intro hF
       ·exact X1 9 0 h rfl (zcB h hF (qb8 ⟨_,_,rfl,(h.oldS s4)⟩) rfl fun r9 w10 h hF=>X0 3 rfl (rb h hF rfl))
       exact X0 8 rfl (rb h hF rfl)
      exact X0 15 rfl (rb h hF rfl)
     exact X0 20 rfl (rb h hF rfl)
    exact X0 25 rfl (rb h hF rfl)
   exact X0 29 rfl (rb h hF rfl)
  exact X0 36 rfl (rb h hF rfl)
 exact X0 43 rfl (rb h hF rfl)
def qeV (b:qg) (x2:(List Int)):Nat→Int→Option (Flow Bool Int)
 | 0,_=>none
 | n+1,i2 =>
  bif decide (i2<(b.Ac.length:Int)) then
   (idx b.Ac i2).bind fun y4 =>
   (idx x2 i2).bind fun y5 =>
   (qlo n y4 y5).bind fun r2 =>
   bif (!r2) then some (.ret false) else
   qeV b x2 n (W64 (i2+1))
  else
   some (.nxt i2)
def qcZ (r1:(List Tplace)):Nat→(List Int)→Int→Option ((List Int) × Int)
 | 0,_,_=>none
 | n+1,x2,i1 =>
  bif decide (i1<(r1.length:Int)) then
   (idx r1 i1).bind fun y1 =>
   bif (!y1.drives) then
    (idx x2 y1.net).bind fun y2 =>
    (idx x2 y1.net).bind fun _ =>
    qcZ r1 n (setS x2 y1.net (W64 (y2+1))) (W64 (i1+1))
   else
    qcZ r1 n x2 (W64 (i1+1))
  else
   some (x2,i1)
def qiN (n:Nat) (b:qg):Option Bool :=
 (
  (qjx n (⟨b.Av.Ar⟩:qn) (⟨b.Ab.Aa,b.Ab.Ak,b.Ab.Aj⟩:qd)).bind fun r3 =>
  bif (!r3) then some true else
  some ((b.Ac.length:Int) != (b.Ab.Ak.length:Int))).bind fun b1 =>
 bif b1 then some false else
 (mkS (b.Ac.length:Int) (0:Int)).bind fun x1 =>
 (qcm n (⟨b.Ab.Aa,b.Ab.Ak,b.Ab.Aj⟩:qd)).bind fun r1 =>
 (qcZ r1 n x1 0).bind fun o=>match o with
 | (x2,_) =>
  (qeV b x2 n 0).bind fun o=>match o with
  | .ret r=>some r
  | .nxt _ =>
   some true
theorem qqB {b:qg} (ha1:GoT.R w (old w) b cs1) {r:Bool} (hF:qiN n b=some r):RetV Tryz.prog 186 [GoT.v qg cs1] w r:=by
 obtain ⟨p1,k1,p2,k2,p3,k3,p4,k4,p5,k5,rfl,s1,s2,s3,s4,s5⟩:=qab ha1
 refine zV 63 Tryz.func186 rfl fun h=>zSR (qv h rfl rfl fun w1 bb1 h=>X0 4 rfl ?_)
 obtain ⟨KF1,hKF1,o3,hF,hK3⟩:=bindE hF
 refine qba (fun e w'=>∃ (b1:Bool),KF1 b1=some r∧e=[(1,.pointer (some ⟨bb1,0,none⟩)),(23,.bool b1)]∧SH w w' [Ch.box bb1 (qaZ b p1 p2 p3 p4 p5 k1 k2 k3 k4 k5) 51]) ?_ ?_
 ·refine X2 5 0 0 h rfl (zcB h hF (qpO (qd6 _ (h.oldS s1)) (qau _ (h.oldS s2) (h.oldS s3) (h.oldS s4))) rfl fun r3 w12 h hF=>zp2 rfl (qk (t:=14) hF rfl ?_ ?_))<;>intro hF
  ·refine X0 10 rfl ?_
   obtain rfl:=qb hF
   exact rG ⟨_,hK3,rfl,h⟩ rfl
  refine X2 18 0 0 h rfl ?_
  obtain rfl:=qb hF
  exact rG ⟨_,hK3,rfl,h⟩ rfl
 rintro e3 w13 ⟨b1,hF,rfl,h⟩
 subst hKF1
 refine qh rfl hF ?_ ?_<;>intro hF
 ·exact X0 4 rfl (rb h hF rfl)
 refine X1 6 0 h rfl ?_
 obtain ⟨x1,hx1,hF⟩:=qc hF
 obtain ⟨g1,g2,hx1⟩:=qU hx1
 refine qam qa Int h rfl rfl rfl rfl rfl rfl rfl rfl rfl g1 g2 hx1 rfl fun w2 S1 p6 h=>X1 7 1 h rfl (zcL h hF (qeL (qau _ (h.oldS s2) (h.oldS s3) (h.oldS s4))) rfl fun r1 w3 S2 p7 k6 h hF=>X0 3 rfl ?_)
 obtain ⟨o1,hF,hK1⟩:=qc hF
 refine qm (rL (fun m e w'=>∃ (x2:(List Int)) (i1:Int),qcZ r1 m x2 i1=some o1∧e=[(1,.pointer (some ⟨bb1,0,none⟩)),(3,.slice p6 x1.length x1.length),(30,.slice p7 r1.length k6),(31,.int .i64 (r1.length:Int)),(32,.int .i64 i1)]∧SH w w' [Ch.own S2 (r1:List Tplace) [.slice p7 r1.length k6],Ch.own S1 (x2:List Int) [.slice p6 x1.length x1.length],Ch.box bb1 (qaZ b p1 p2 p3 p4 p5 k1 k2 k3 k4 k5) 51]) n ⟨_,_,hF,rfl,h⟩ rfl ?_)
 rintro m1 e1 w4 ⟨x2,i1,hF,rfl,h⟩
 rcases m1 with _|m1
 ·cases hF
 refine X0 5 rfl (qh rfl hF ?_ ?_)<;>intro hF
 ·refine zKSBSR ?_
  obtain ⟨y1,hy1,hF,he1,b2,_,q1,cs2,hp1,hq1,hr2,hc3⟩:=(h.sl 0 rfl).1.ix hF
  obtain rfl:=qg8 hr2
  refine zx hp1 hq1 ⟨he1.1,qC he1.2.1 (h.sl 0 rfl).2⟩ rfl (zc 0 hc3 rfl (qp qa h rfl rfl rfl fun w5 bb2 h=>zs 0 h rfl fun w6 h=>X1 7 0 h rfl (qh rfl hF ?_ ?_)))<;>intro hF
  ·refine X1 4 0 h rfl ?_
   obtain ⟨y2,hy2,hF,he2,b3,_,q2,cs3,hp2,hq2,rfl,hc5⟩:=(h.sl 2 rfl).1.ix hF
   refine zx hp2 hq2 ⟨he2.1,qC he2.2.1 (h.sl 2 rfl).2⟩ rfl (zc 0 hc5 rfl (zp1 rfl ?_))
   obtain ⟨y3,hy3,hF,he3,b4,_,q3,cs4,hp3,hq3,rfl,hc6⟩:=(h.sl 2 rfl).1.ix hF
   refine zx hp3 hq3 ⟨he3.1,qC he3.2.1 (h.sl 2 rfl).2⟩ rfl (qay qa 2 0 (W64 (y2+1)) h rfl hy3 hp3 hq3 rfl hc6 rfl rfl rfl rfl rfl rfl rfl fun w7 h=>X0 6 rfl ?_)
   replace h:=h.pick [1,2,3] rfl
   exact rK ⟨_,_,hF,rfl,h⟩ rfl
  refine X0 6 rfl ?_
  replace h:=h.pick [1,2,3] rfl
  exact rK ⟨_,_,hF,rfl,h⟩ rfl
 refine qq rfl ?_
 obtain rfl:=qb hF;replace hF:=hK1
 refine X1 8 2 h rfl ?_
 obtain ⟨o2,hF,hK2⟩:=qc hF
 refine qm ?_
 replace h:=h.pick [1] rfl
 refine rL (fun m e w'=>∃ (i2:Int),qeV b x2 m i2=some o2∧e=[(3,.slice p6 x1.length x1.length),(48,.slice p5 b.Ac.length k5),(49,.int .i64 (b.Ac.length:Int)),(50,.int .i64 i2)]∧SH w w' [Ch.own S1 (x2:List Int) [.slice p6 x1.length x1.length]]) n ⟨_,hF,rfl,h⟩ rfl ?_
 rintro m2 e2 w8 ⟨i2,hF,rfl,h⟩
 rcases m2 with _|m2
 ·cases hF
 refine X0 5 rfl (qh rfl hF ?_ ?_)<;>intro hF
 ·refine X0 6 rfl ?_
  obtain ⟨y4,hy4,hF,he4,b5,_,q4,cs5,hp4,hq4,hr5,hc8⟩:=s5.ix hF
  obtain ⟨p8,k7,p9,k8,p10,k9,p11,k10,rfl,s6,s7,s8,s9⟩:=qaM hr5
  refine zxe hp4 hq4 he4 rfl (zc 0 (hc8.below h.below) rfl (qp qa h rfl rfl rfl fun w9 bb3 h=>zp1 rfl (zs 0 h rfl fun w10 h=>zNS (rD (Y1 1 0 h rfl ?_)))))
  refine zd2 rfl ?_
  obtain ⟨y5,hy5,hF,he5,b6,_,q5,cs6,hp5,hq5,rfl,hc9⟩:=(h.sl 1 rfl).1.ix hF
  refine zdx hp5 hq5 ⟨he5.1,qC he5.2.1 (h.sl 1 rfl).2⟩ rfl (zdc 0 hc9 rfl ?_)
  obtain ⟨r2,hr7,hF⟩:=qc hF
  refine qbo r2 (vsB _) (cB 213 rfl) (fun _ hb=>qq2 (qkC y4 ((h.ext hb).oldS s6) ((h.ext hb).oldS s7) ((h.ext hb).oldS s8) ((h.ext hb).oldS s9)) hr7) rfl rfl rfl rfl (zd1 rfl (dN h fun w11 h=>qh rfl hF ?_ ?_))<;>intro hF
  ·refine X0 4 rfl ?_
   obtain rfl:=qb hF;replace hF:=hK2
   exact rb h hF rfl
  refine X0 6 rfl ?_
  replace h:=h.pick [1] rfl
  exact rK ⟨_,hF,rfl,h⟩ rfl
 refine qq rfl ?_
 obtain rfl:=qb hF;replace hF:=hK2
 exact X0 4 rfl (rb h hF rfl)
end Go.Fw


namespace Go.Fw
open Go
def qaL (a:(List Int)):Nat:=a.length
theorem qdv {a:(List Int)} (h:(rngL rngI) a) (w:qaL a≤1048576):(okL okI) a :=
 ⟨by simp only [qaL] at w;omega,fun x hx=>h.2 x hx⟩
def qij (x:qr):Prop:=(rngL rngI) x.Bm∧(rngL rngI) x.Bj∧(rngL rngI) x.Bh
def qd8 (x:qr):Nat:=qaL x.Bm+qaL x.Bj+qaL x.Bh
structure qiO (x:qr):Prop where
 Bm:(okL okI) x.Bm
 Bj:(okL okI) x.Bj
 Bh:(okL okI) x.Bh
theorem qu2 {x:qr} (h:qij x) (w:qd8 x≤1048576):qiO x:=⟨qdv (h.1) (by simp only [qd8] at w;omega),qdv (h.2.1) (by simp only [qd8] at w;omega),qdv (h.2.2) (by simp only [qd8] at w;omega)⟩
def qda (a:(List qr)):Nat:=a.length+(a.map fun x=>qd8 x).sum
theorem qp1 {a:(List qr)} (h:(rngL qij) a) (w:qda a≤1048576):(okL qiO) a :=
 ⟨by simp only [qda] at w;omega,fun x hx=>qu2 (h.2 x hx) (by have:=qcC (wt:=fun x:qr=>qd8 x) hx;simp only [qda] at w;omega)⟩
def qmH (x:qF):Prop:=rngI x.Be∧rngI x.Bk∧rngI x.To∧rngI x.Bp∧(rngL qij) x.Bn∧(rngL qij) x.Bc
def qi4 (x:qF):Nat:=qda x.Bn+qda x.Bc
structure qog (x:qF):Prop where
 Be:okI x.Be
 Bk:okI x.Bk
 To:okI x.To
 Bp:okI x.Bp
 Bn:(okL qiO) x.Bn
 Bc:(okL qiO) x.Bc
theorem qxB {x:qF} (h:qmH x) (w:qi4 x≤1048576):qog x:=⟨h.1,h.2.1,h.2.2.1,h.2.2.2.1,qp1 (h.2.2.2.2.1) (by simp only [qi4] at w;omega),qp1 (h.2.2.2.2.2) (by simp only [qi4] at w;omega)⟩
theorem qdC {a:(List Int)} (h:qaL a≤1048576):Ev (fun n=>qaP n a a) true:=by
 have hl:a.length≤1048576:=by simp only [qaL] at h;omega
 unfold qaP
 exact Ev.ff (by simp) (Ev.bind (b:=.nxt (a.length:Int)) (qjl (eqf:=fun _ x y=>some (!(x != y))) (fun x _=>Ev.now (by simp))
  (fun n=>by simp only [qfE,ql (je _),cond_false])
  (fun n j x hx=>by
   have hj:=(List.getElem?_eq_some_iff.1 hx).1
   simp only [qfE,qj hj,cond_true,qan hx,jd,Bool.not_not,wS j])) .done)
theorem qw6 {a:qr} (h:qd8 a≤1048576):Ev (fun n=>qiu n a a) true:=by
 unfold qiu
 simp only [qd8] at h
 exact Ev.bind (qdC (a:=a.Bm) (by omega)) (Ev.ff rfl (Ev.bind (qdC (a:=a.Bj) (by omega)) (Ev.ff rfl (Ev.bind (qdC (a:=a.Bh) (by omega)) (Ev.ff rfl (.done))))))
theorem qsf {a:(List qr)} (h:qda a≤1048576):Ev (fun n=>qhG n a a) true:=by
 have hl:a.length≤1048576:=by simp only [qda] at h;omega
 unfold qhG
 exact Ev.ff (by simp) (Ev.bind (b:=.nxt (a.length:Int)) (qjl (eqf:=qiu) (fun x hx=>qw6 (by have:=qcC (wt:=fun x:qr=>qd8 x) hx;simp only [qda] at h;omega))
  (fun n=>by simp only [qfU,ql (je _),cond_false])
  (fun n j x hx=>by
   have hj:=(List.getElem?_eq_some_iff.1 hx).1
   simp only [qfU,qj hj,cond_true,qan hx,jd,wS j])) .done)
theorem qzH {a:qF} (h:qi4 a≤1048576):Ev (fun n=>qkS n a a) true:=by
 unfold qkS
 simp only [qi4] at h
 exact Ev.ff qaR (Ev.ff qaR (Ev.ff qaR (Ev.ff qaR (Ev.bind (qsf (a:=a.Bn) (by omega)) (Ev.ff rfl (Ev.bind (qsf (a:=a.Bc) (by omega)) (Ev.ff rfl (.done))))))))
def qhB (a:(List qF)):Nat:=a.length+(a.map fun x=>qi4 x).sum
theorem qwl {a:(List qF)} (h:(rngL qmH) a) (w:qhB a≤1048576):(okL qog) a :=
 ⟨by simp only [qhB] at w;omega,fun x hx=>qxB (h.2 x hx) (by have:=qcC (wt:=fun x:qF=>qi4 x) hx;simp only [qhB] at w;omega)⟩
theorem qyx {a:(List qF)} (h:qhB a≤1048576):Ev (fun n=>qlu n a a) true:=by
 have hl:a.length≤1048576:=by simp only [qhB] at h;omega
 unfold qlu
 exact Ev.ff (by simp) (Ev.bind (b:=.nxt (a.length:Int)) (qjl (eqf:=qkS) (fun x hx=>qzH (by have:=qcC (wt:=fun x:qF=>qi4 x) hx;simp only [qhB] at h;omega))
  (fun n=>by simp only [qgZ,ql (je _),cond_false])
  (fun n j x hx=>by
   have hj:=(List.getElem?_eq_some_iff.1 hx).1
   simp only [qgZ,qj hj,cond_true,qan hx,jd,wS j])) .done)
def qms (x:qal):Prop:=rngS x.Bb∧rngI x.Bv∧rngI x.Bs∧rngB x.Br
def qk0 (x:qal):Nat:=x.Bb.size
structure qnF (x:qal):Prop where
 Bb:okS x.Bb
 Bv:okI x.Bv
 Bs:okI x.Bs
 Br:okT x.Br
theorem qxb {x:qal} (h:qms x) (w:qk0 x≤1048576):qnF x:=⟨(by unfold okS;simp only [qk0] at w;omega),h.2.1,h.2.2.1,trivial⟩
def qhC (a:(List qal)):Nat:=a.length+(a.map fun x=>qk0 x).sum
theorem qvY {a:(List qal)} (h:(rngL qms) a) (w:qhC a≤1048576):(okL qnF) a :=
 ⟨by simp only [qhC] at w;omega,fun x hx=>qxb (h.2 x hx) (by have:=qcC (wt:=fun x:qal=>qk0 x) hx;simp only [qhC] at w;omega)⟩
def qkG (x:qw):Prop:=rngS x.Bb∧rngI x.Be∧(rngL qms) x.Bd∧(rngL qmH) x.Au∧(rngL rngI) x.Bo∧rngI x.Ca∧rngI x.Bu
def qfH (x:qw):Nat:=x.Bb.size+qhC x.Bd+qhB x.Au+qaL x.Bo
structure qnM (x:qw):Prop where
 Bb:okS x.Bb
 Be:okI x.Be
 Bd:(okL qnF) x.Bd
 Au:(okL qog) x.Au
 Bo:(okL okI) x.Bo
 Ca:okI x.Ca
 Bu:okI x.Bu
theorem qwd {x:qw} (h:qkG x) (w:qfH x≤1048576):qnM x:=⟨(by unfold okS;simp only [qfH] at w;omega),h.2.1,qvY (h.2.2.1) (by simp only [qfH] at w;omega),qwl (h.2.2.2.1) (by simp only [qfH] at w;omega),qdv (h.2.2.2.2.1) (by simp only [qfH] at w;omega),h.2.2.2.2.2.1,h.2.2.2.2.2.2⟩
def qgf (a:(List qw)):Nat:=a.length+(a.map fun x=>qfH x).sum
theorem qvw {a:(List qw)} (h:(rngL qkG) a) (w:qgf a≤1048576):(okL qnM) a :=
 ⟨by simp only [qgf] at w;omega,fun x hx=>qwd (h.2 x hx) (by have:=qcC (wt:=fun x:qw=>qfH x) hx;simp only [qgf] at w;omega)⟩
def qlq (x:qn):Prop:=(rngL qkG) x.Ar
def qet (x:qn):Nat:=qgf x.Ar
structure qh7 (x:qn):Prop where
 Ar:(okL qnM) x.Ar
theorem qtg {x:qn} (h:qlq x) (w:qet x≤1048576):qh7 x:=⟨qvw (h) (by simp only [qet] at w;omega)⟩
def qf9 (x:qi):Prop:=rngS x.Bb∧rngI x.Bt∧(rngL rngI) x.Ak
def qbF (x:qi):Nat:=x.Bb.size+qaL x.Ak
structure qno (x:qi):Prop where
 Bb:okS x.Bb
 Bt:okI x.Bt
 Ak:(okL okI) x.Ak
theorem qrY {x:qi} (h:qf9 x) (w:qbF x≤1048576):qno x:=⟨(by unfold okS;simp only [qbF] at w;omega),h.2.1,qdv (h.2.2) (by simp only [qbF] at w;omega)⟩
def qbN (a:(List qi)):Nat:=a.length+(a.map fun x=>qbF x).sum
theorem qrw {a:(List qi)} (h:(rngL qf9) a) (w:qbN a≤1048576):(okL qno) a :=
 ⟨by simp only [qbN] at w;omega,fun x hx=>qrY (h.2 x hx) (by have:=qcC (wt:=fun x:qi=>qbF x) hx;simp only [qbN] at w;omega)⟩
def qem (a:(List ByteArray)):Nat:=a.length+(a.map fun x=>x.size).sum
theorem qte {a:(List ByteArray)} (_:(rngL rngS) a) (w:qem a≤1048576):(okL okS) a :=
 ⟨by simp only [qem] at w;omega,fun x hx=>(by unfold okS;have:=qcC (wt:=fun x:ByteArray=>x.size) hx;simp only [qem] at w;omega)⟩
def qkF (x:qL):Prop:=rngS x.Bb∧rngI x.Bv∧rngI x.Bx
def qh6 (x:qL):Nat:=x.Bb.size
structure qtE (x:qL):Prop where
 Bb:okS x.Bb
 Bv:okI x.Bv
 Bx:okI x.Bx
theorem qv7 {x:qL} (h:qkF x) (w:qh6 x≤1048576):qtE x:=⟨(by unfold okS;simp only [qh6] at w;omega),h.2.1,h.2.2⟩
def qf7 (a:(List qL)):Nat:=a.length+(a.map fun x=>qh6 x).sum
theorem quV {a:(List qL)} (h:(rngL qkF) a) (w:qf7 a≤1048576):(okL qtE) a :=
 ⟨by simp only [qf7] at w;omega,fun x hx=>qv7 (h.2 x hx) (by have:=qcC (wt:=fun x:qL=>qh6 x) hx;simp only [qf7] at w;omega)⟩
def qmj (x:qd):Prop:=(rngL qf9) x.Aa∧(rngL rngS) x.Ak∧(rngL qkF) x.Aj
def qeJ (x:qd):Nat:=qbN x.Aa+qem x.Ak+qf7 x.Aj
structure qkD (x:qd):Prop where
 Aa:(okL qno) x.Aa
 Ak:(okL okS) x.Ak
 Aj:(okL qtE) x.Aj
theorem qud {x:qd} (h:qmj x) (w:qeJ x≤1048576):qkD x:=⟨qrw (h.1) (by simp only [qeJ] at w;omega),qte (h.2.1) (by simp only [qeJ] at w;omega),quV (h.2.2) (by simp only [qeJ] at w;omega)⟩
def qkZ (x:qD):Prop:=(rngL rngI) x.Am∧(rngL rngI) x.Bw∧(rngL rngI) x.Bs∧(rngL rngI) x.Bl
def qfR (x:qD):Nat:=qaL x.Am+qaL x.Bw+qaL x.Bs+qaL x.Bl
structure qoR (x:qD):Prop where
 Am:(okL okI) x.Am
 Bw:(okL okI) x.Bw
 Bs:(okL okI) x.Bs
 Bl:(okL okI) x.Bl
theorem qwO {x:qD} (h:qkZ x) (w:qfR x≤1048576):qoR x:=⟨qdv (h.1) (by simp only [qfR] at w;omega),qdv (h.2.1) (by simp only [qfR] at w;omega),qdv (h.2.2.1) (by simp only [qfR] at w;omega),qdv (h.2.2.2) (by simp only [qfR] at w;omega)⟩
def qfX (a:(List qD)):Nat:=a.length+(a.map fun x=>qfR x).sum
theorem qvl {a:(List qD)} (h:(rngL qkZ) a) (w:qfX a≤1048576):(okL qoR) a :=
 ⟨by simp only [qfX] at w;omega,fun x hx=>qwO (h.2 x hx) (by have:=qcC (wt:=fun x:qD=>qfR x) hx;simp only [qfX] at w;omega)⟩
def qnK (x:qg):Prop:=qlq x.Av∧qmj x.Ab∧(rngL qkZ) x.Ac
def qf2 (x:qg):Nat:=qet x.Av+qeJ x.Ab+qfX x.Ac
structure qmc (x:qg):Prop where
 Av:qh7 x.Av
 Ab:qkD x.Ab
 Ac:(okL qoR) x.Ac
theorem quY {x:qg} (h:qnK x) (w:qf2 x≤1048576):qmc x:=⟨qtg (h.1) (by simp only [qf2] at w;omega),qud (h.2.1) (by simp only [qf2] at w;omega),qvl (h.2.2) (by simp only [qf2] at w;omega)⟩
theorem qzu {a:qal} (_:qk0 a≤1048576):Ev (fun n=>qla n a a) true:=by
 unfold qla
 exact Ev.ff qiI (Ev.ff qaR (Ev.ff qaR (Ev.ff qti (.done))))
theorem qyt {a:(List qal)} (h:qhC a≤1048576):Ev (fun n=>qlj n a a) true:=by
 have hl:a.length≤1048576:=by simp only [qhC] at h;omega
 unfold qlj
 exact Ev.ff (by simp) (Ev.bind (b:=.nxt (a.length:Int)) (qjl (eqf:=qla) (fun x hx=>qzu (by have:=qcC (wt:=fun x:qal=>qk0 x) hx;simp only [qhC] at h;omega))
  (fun n=>by simp only [qg9,ql (je _),cond_false])
  (fun n j x hx=>by
   have hj:=(List.getElem?_eq_some_iff.1 hx).1
   simp only [qg9,qj hj,cond_true,qan hx,jd,wS j])) .done)
theorem qyZ {a:qw} (h:qfH a≤1048576):Ev (fun n=>qj1 n a a) true:=by
 unfold qj1
 simp only [qfH] at h
 exact Ev.ff qiI (Ev.ff qaR (Ev.bind (qyt (a:=a.Bd) (by omega)) (Ev.ff rfl (Ev.bind (qyx (a:=a.Au) (by omega)) (Ev.ff rfl (Ev.bind (qdC (a:=a.Bo) (by omega)) (Ev.ff rfl (Ev.ff qaR (Ev.ff qaR (.done))))))))))
theorem qxC {a:(List qw)} (h:qgf a≤1048576):Ev (fun n=>qkj n a a) true:=by
 have hl:a.length≤1048576:=by simp only [qgf] at h;omega
 unfold qkj
 exact Ev.ff (by simp) (Ev.bind (b:=.nxt (a.length:Int)) (qjl (eqf:=qj1) (fun x hx=>qyZ (by have:=qcC (wt:=fun x:qw=>qfH x) hx;simp only [qgf] at h;omega))
  (fun n=>by simp only [qgl,ql (je _),cond_false])
  (fun n j x hx=>by
   have hj:=(List.getElem?_eq_some_iff.1 hx).1
   simp only [qgl,qj hj,cond_true,qan hx,jd,wS j])) .done)
theorem qu1 {a:qn} (h:qet a≤1048576):Ev (fun n=>qiD n a a) true:=by
 unfold qiD
 simp only [qet] at h
 exact Ev.bind (qxC (a:=a.Ar) (by omega)) (Ev.ff rfl (.done))
theorem qua {a:qi} (h:qbF a≤1048576):Ev (fun n=>qgv n a a) true:=by
 unfold qgv
 simp only [qbF] at h
 exact Ev.ff qiI (Ev.ff qaR (Ev.bind (qdC (a:=a.Ak) (by omega)) (Ev.ff rfl (.done))))
theorem qtj {a:(List qi)} (h:qbN a≤1048576):Ev (fun n=>qhn n a a) true:=by
 have hl:a.length≤1048576:=by simp only [qbN] at h;omega
 unfold qhn
 exact Ev.ff (by simp) (Ev.bind (b:=.nxt (a.length:Int)) (qjl (eqf:=qgv) (fun x hx=>qua (by have:=qcC (wt:=fun x:qi=>qbF x) hx;simp only [qbN] at h;omega))
  (fun n=>by simp only [qdZ,ql (je _),cond_false])
  (fun n j x hx=>by
   have hj:=(List.getElem?_eq_some_iff.1 hx).1
   simp only [qdZ,qj hj,cond_true,qan hx,jd,wS j])) .done)
theorem qu0 {a:(List ByteArray)} (h:qem a≤1048576):Ev (fun n=>qi1 n a a) true:=by
 have hl:a.length≤1048576:=by simp only [qem] at h;omega
 unfold qi1
 exact Ev.ff (by simp) (Ev.bind (b:=.nxt (a.length:Int)) (qjl (eqf:=fun _ x y=>some (!(x.toList != y.toList))) (fun x _=>Ev.now (by simp))
  (fun n=>by simp only [qfk,ql (je _),cond_false])
  (fun n j x hx=>by
   have hj:=(List.getElem?_eq_some_iff.1 hx).1
   simp only [qfk,qj hj,cond_true,qan hx,jd,Bool.not_not,wS j])) .done)
theorem qy4 {a:qL} (_:qh6 a≤1048576):Ev (fun n=>qjZ n a a) true:=by
 unfold qjZ
 exact Ev.ff qiI (Ev.ff qaR (Ev.ff qaR (.done)))
theorem qxx {a:(List qL)} (h:qf7 a≤1048576):Ev (fun n=>qki n a a) true:=by
 have hl:a.length≤1048576:=by simp only [qf7] at h;omega
 unfold qki
 exact Ev.ff (by simp) (Ev.bind (b:=.nxt (a.length:Int)) (qjl (eqf:=qjZ) (fun x hx=>qy4 (by have:=qcC (wt:=fun x:qL=>qh6 x) hx;simp only [qf7] at h;omega))
  (fun n=>by simp only [qgh,ql (je _),cond_false])
  (fun n j x hx=>by
   have hj:=(List.getElem?_eq_some_iff.1 hx).1
   simp only [qgh,qj hj,cond_true,qan hx,jd,wS j])) .done)
theorem qwf {a:qd} (h:qeJ a≤1048576):Ev (fun n=>qjs n a a) true:=by
 unfold qjs
 simp only [qeJ] at h
 exact Ev.bind (qtj (a:=a.Aa) (by omega)) (Ev.ff rfl (Ev.bind (qu0 (a:=a.Ak) (by omega)) (Ev.ff rfl (Ev.bind (qxx (a:=a.Aj) (by omega)) (Ev.ff rfl (.done))))))
theorem qyz {a:qD} (h:qfR a≤1048576):Ev (fun n=>qjJ n a a) true:=by
 unfold qjJ
 simp only [qfR] at h
 exact Ev.bind (qdC (a:=a.Am) (by omega)) (Ev.ff rfl (Ev.bind (qdC (a:=a.Bw) (by omega)) (Ev.ff rfl (Ev.bind (qdC (a:=a.Bs) (by omega)) (Ev.ff rfl (Ev.bind (qdC (a:=a.Bl) (by omega)) (Ev.ff rfl (.done))))))))
theorem qw3 {a:(List qD)} (h:qfX a≤1048576):Ev (fun n=>qks n a a) true:=by
 have hl:a.length≤1048576:=by simp only [qfX] at h;omega
 unfold qks
 exact Ev.ff (by simp) (Ev.bind (b:=.nxt (a.length:Int)) (qjl (eqf:=qjJ) (fun x hx=>qyz (by have:=qcC (wt:=fun x:qD=>qfR x) hx;simp only [qfX] at h;omega))
  (fun n=>by simp only [qgq,ql (je _),cond_false])
  (fun n j x hx=>by
   have hj:=(List.getElem?_eq_some_iff.1 hx).1
   simp only [qgq,qj hj,cond_true,qan hx,jd,wS j])) .done)
theorem qx3 {a:qg} (h:qf2 a≤1048576):Ev (fun n=>qke n a a) true:=by
 unfold qke
 simp only [qf2] at h
 exact Ev.bind (qu1 (a:=a.Av) (by omega)) (Ev.ff rfl (Ev.bind (qwf (a:=a.Ab) (by omega)) (Ev.ff rfl (Ev.bind (qw3 (a:=a.Ac) (by omega)) (Ev.ff rfl (.done))))))
theorem qgA {a:(List Int)} {left:Int} (h:(rngL rngI) a) (h0:0≤left) (h1:left≤1048576):Sz (fun n=>qbR n a left) (fun r=>r=left-(qaL a:Int)) :=
 Sz.less h0 h1 (by omega) (by have:=h.1;omega) (fun _=>rfl)
theorem qx5 {a:qr} {left:Int} (h:qij a) (h0:0≤left) (h1:left≤1048576):Sz (fun n=>qiQ n a left) (fun r=>r=left-(qd8 a:Int)):=by
 unfold qiQ
 obtain ⟨h_0,h_1,h_2⟩:=h
 exact Sz.step (qgA (a:=a.Bm) h_0 (by omega) (by omega)) fun r0 p0 q0=>Sz.step (qgA (a:=a.Bj) h_1 (by omega) (by omega)) fun r1 p1 q1=>Sz.step (qgA (a:=a.Bh) h_2 (by omega) (by omega)) fun r2 p2 q2=>Sz.done p2 (by simp only [qd8];omega)
theorem qsv {a:(List qr)} {left:Int} (h:(rngL qij) a) (h0:0≤left) (h1:left≤1048576):Sz (fun n=>qjm n a left) (fun r=>r=left-(qda a:Int)) :=
 Sz.list (Lf:=qer a) (wt:=fun x:qr=>qd8 x) (el:=qiQ) h0 h1 h.1 (fun x hx left p q=>qx5 (h.2 x hx) p q)
  (fun acc n=>by simp only [qer,ql (je _),cond_false])
  (fun acc n j x hx=>by
   have hj:=(List.getElem?_eq_some_iff.1 hx).1
   have hl:=h.1
   simp only [qer,qj hj,cond_true,qan hx,jd,wS j])
  (fun _=>rfl)
theorem qzF {a:qF} {left:Int} (h:qmH a) (h0:0≤left) (h1:left≤1048576):Sz (fun n=>qk6 n a left) (fun r=>r=left-(qi4 a:Int)):=by
 unfold qk6
 obtain ⟨h_0,h_1,h_2,h_3,h_4,h_5⟩:=h
 exact Sz.step (qsv (a:=a.Bn) h_4 (by omega) (by omega)) fun r0 p0 q0=>Sz.step (qsv (a:=a.Bc) h_5 (by omega) (by omega)) fun r1 p1 q1=>Sz.done p1 (by simp only [qi4];omega)
theorem qyj {a:(List qF)} {left:Int} (h:(rngL qmH) a) (h0:0≤left) (h1:left≤1048576):Sz (fun n=>qnf n a left) (fun r=>r=left-(qhB a:Int)) :=
 Sz.list (Lf:=qfM a) (wt:=fun x:qF=>qi4 x) (el:=qk6) h0 h1 h.1 (fun x hx left p q=>qzF (h.2 x hx) p q)
  (fun acc n=>by simp only [qfM,ql (je _),cond_false])
  (fun acc n j x hx=>by
   have hj:=(List.getElem?_eq_some_iff.1 hx).1
   have hl:=h.1
   simp only [qfM,qj hj,cond_true,qan hx,jd,wS j])
  (fun _=>rfl)
theorem qzQ {a:qal} {left:Int} (h:qms a) (h0:0≤left) (h1:left≤1048576):Sz (fun n=>qkT n a left) (fun r=>r=left-(qk0 a:Int)):=by
 unfold qkT
 obtain ⟨h_0,h_1,h_2,h_3⟩:=h
 exact Sz.strStep h_0 (by omega) (by omega) fun p0 q0=>Sz.done p0 (by simp only [qk0];omega)
theorem qyv {a:(List qal)} {left:Int} (h:(rngL qms) a) (h0:0≤left) (h1:left≤1048576):Sz (fun n=>qnD n a left) (fun r=>r=left-(qhC a:Int)) :=
 Sz.list (Lf:=qfG a) (wt:=fun x:qal=>qk0 x) (el:=qkT) h0 h1 h.1 (fun x hx left p q=>qzQ (h.2 x hx) p q)
  (fun acc n=>by simp only [qfG,ql (je _),cond_false])
  (fun acc n j x hx=>by
   have hj:=(List.getElem?_eq_some_iff.1 hx).1
   have hl:=h.1
   simp only [qfG,qj hj,cond_true,qan hx,jd,wS j])
  (fun _=>rfl)
theorem qyB {a:qw} {left:Int} (h:qkG a) (h0:0≤left) (h1:left≤1048576):Sz (fun n=>qjT n a left) (fun r=>r=left-(qfH a:Int)):=by
 unfold qjT
 obtain ⟨h_0,h_1,h_2,h_3,h_4,h_5,h_6⟩:=h
 exact Sz.strStep h_0 (by omega) (by omega) fun p0 q0=>Sz.step (qyv (a:=a.Bd) h_2 (by omega) (by omega)) fun r1 p1 q1=>Sz.step (qyj (a:=a.Au) h_3 (by omega) (by omega)) fun r2 p2 q2=>Sz.step (qgA (a:=a.Bo) h_4 (by omega) (by omega)) fun r3 p3 q3=>Sz.done p3 (by simp only [qfH];omega)
theorem qxk {a:(List qw)} {left:Int} (h:(rngL qkG) a) (h0:0≤left) (h1:left≤1048576):Sz (fun n=>qmE n a left) (fun r=>r=left-(qgf a:Int)) :=
 Sz.list (Lf:=qeW a) (wt:=fun x:qw=>qfH x) (el:=qjT) h0 h1 h.1 (fun x hx left p q=>qyB (h.2 x hx) p q)
  (fun acc n=>by simp only [qeW,ql (je _),cond_false])
  (fun acc n j x hx=>by
   have hj:=(List.getElem?_eq_some_iff.1 hx).1
   have hl:=h.1
   simp only [qeW,qj hj,cond_true,qan hx,jd,wS j])
  (fun _=>rfl)
theorem qu6 {a:qn} {left:Int} (h:qlq a) (h0:0≤left) (h1:left≤1048576):Sz (fun n=>qiJ n a left) (fun r=>r=left-(qet a:Int)):=by
 unfold qiJ
 have h_0:=h
 exact Sz.step (qxk (a:=a.Ar) h_0 (by omega) (by omega)) fun r0 p0 q0=>Sz.done p0 (by simp only [qet];omega)
theorem qtJ {a:qi} {left:Int} (h:qf9 a) (h0:0≤left) (h1:left≤1048576):Sz (fun n=>qgj n a left) (fun r=>r=left-(qbF a:Int)):=by
 unfold qgj
 obtain ⟨h_0,h_1,h_2⟩:=h
 exact Sz.strStep h_0 (by omega) (by omega) fun p0 q0=>Sz.step (qgA (a:=a.Ak) h_2 (by omega) (by omega)) fun r1 p1 q1=>Sz.done p1 (by simp only [qbF];omega)
theorem qs3 {a:(List qi)} {left:Int} (h:(rngL qf9) a) (h0:0≤left) (h1:left≤1048576):Sz (fun n=>qja n a left) (fun r=>r=left-(qbN a:Int)) :=
 Sz.list (Lf:=qcT a) (wt:=fun x:qi=>qbF x) (el:=qgj) h0 h1 h.1 (fun x hx left p q=>qtJ (h.2 x hx) p q)
  (fun acc n=>by simp only [qcT,ql (je _),cond_false])
  (fun acc n j x hx=>by
   have hj:=(List.getElem?_eq_some_iff.1 hx).1
   have hl:=h.1
   simp only [qcT,qj hj,cond_true,qan hx,jd,wS j])
  (fun _=>rfl)
theorem qvc {a:(List ByteArray)} {left:Int} (h:(rngL rngS) a) (h0:0≤left) (h1:left≤1048576):Sz (fun n=>qlb n a left) (fun r=>r=left-(qem a:Int)) :=
 Sz.list (Lf:=qdE a) (wt:=fun x:ByteArray=>x.size) (el:=fun _ (x:ByteArray) acc=>some (W64 (acc-(x.size:Int)))) h0 h1 h.1 (fun x hx left p q=>Sz.str (h.2 x hx) p q)
  (fun acc n=>by simp only [qdE,ql (je _),cond_false])
  (fun acc n j x hx=>by
   have hj:=(List.getElem?_eq_some_iff.1 hx).1
   have hl:=h.1
   simp only [qdE,qj hj,cond_true,qan hx,jd,wS j])
  (fun _=>rfl)
theorem qyo {a:qL} {left:Int} (h:qkF a) (h0:0≤left) (h1:left≤1048576):Sz (fun n=>qj2 n a left) (fun r=>r=left-(qh6 a:Int)):=by
 unfold qj2
 obtain ⟨h_0,h_1,h_2⟩:=h
 exact Sz.strStep h_0 (by omega) (by omega) fun p0 q0=>Sz.done p0 (by simp only [qh6];omega)
theorem qw4 {a:(List qL)} {left:Int} (h:(rngL qkF) a) (h0:0≤left) (h1:left≤1048576):Sz (fun n=>qmi n a left) (fun r=>r=left-(qf7 a:Int)) :=
 Sz.list (Lf:=qeR a) (wt:=fun x:qL=>qh6 x) (el:=qj2) h0 h1 h.1 (fun x hx left p q=>qyo (h.2 x hx) p q)
  (fun acc n=>by simp only [qeR,ql (je _),cond_false])
  (fun acc n j x hx=>by
   have hj:=(List.getElem?_eq_some_iff.1 hx).1
   have hl:=h.1
   simp only [qeR,qj hj,cond_true,qan hx,jd,wS j])
  (fun _=>rfl)
theorem qwA {a:qd} {left:Int} (h:qmj a) (h0:0≤left) (h1:left≤1048576):Sz (fun n=>qjA n a left) (fun r=>r=left-(qeJ a:Int)):=by
 unfold qjA
 obtain ⟨h_0,h_1,h_2⟩:=h
 exact Sz.step (qs3 (a:=a.Aa) h_0 (by omega) (by omega)) fun r0 p0 q0=>Sz.step (qvc (a:=a.Ak) h_1 (by omega) (by omega)) fun r1 p1 q1=>Sz.step (qw4 (a:=a.Aj) h_2 (by omega) (by omega)) fun r2 p2 q2=>Sz.done p2 (by simp only [qeJ];omega)
theorem qyP {a:qD} {left:Int} (h:qkZ a) (h0:0≤left) (h1:left≤1048576):Sz (fun n=>qjS n a left) (fun r=>r=left-(qfR a:Int)):=by
 unfold qjS
 obtain ⟨h_0,h_1,h_2,h_3⟩:=h
 exact Sz.step (qgA (a:=a.Am) h_0 (by omega) (by omega)) fun r0 p0 q0=>Sz.step (qgA (a:=a.Bw) h_1 (by omega) (by omega)) fun r1 p1 q1=>Sz.step (qgA (a:=a.Bs) h_2 (by omega) (by omega)) fun r2 p2 q2=>Sz.step (qgA (a:=a.Bl) h_3 (by omega) (by omega)) fun r3 p3 q3=>Sz.done p3 (by simp only [qfR];omega)
theorem qxR {a:(List qD)} {left:Int} (h:(rngL qkZ) a) (h0:0≤left) (h1:left≤1048576):Sz (fun n=>qmf n a left) (fun r=>r=left-(qfX a:Int)) :=
 Sz.list (Lf:=qeQ a) (wt:=fun x:qD=>qfR x) (el:=qjS) h0 h1 h.1 (fun x hx left p q=>qyP (h.2 x hx) p q)
  (fun acc n=>by simp only [qeQ,ql (je _),cond_false])
  (fun acc n j x hx=>by
   have hj:=(List.getElem?_eq_some_iff.1 hx).1
   have hl:=h.1
   simp only [qeQ,qj hj,cond_true,qan hx,jd,wS j])
  (fun _=>rfl)
theorem qxh {a:qg} {left:Int} (h:qnK a) (h0:0≤left) (h1:left≤1048576):Sz (fun n=>qkk n a left) (fun r=>r=left-(qf2 a:Int)):=by
 unfold qkk
 obtain ⟨h_0,h_1,h_2⟩:=h
 exact Sz.step (qu6 (a:=a.Av) h_0 (by omega) (by omega)) fun r0 p0 q0=>Sz.step (qwA (a:=a.Ab) h_1 (by omega) (by omega)) fun r1 p1 q1=>Sz.step (qxR (a:=a.Ac) h_2 (by omega) (by omega)) fun r2 p2 q2=>Sz.done p2 (by simp only [qf2];omega)
theorem qdG {a:(List Int)} (h:qaL a≤1048576):Ev (fun n=>qaO n a) a:=by
 have hl:a.length≤1048576:=by simp only [qaL] at h;omega
 unfold qaO
 exact Ev.bindN (qiA (by omega)) (Ev.bind (b:=(a,(a.length:Int))) (qjy (cp:=fun _ x=>some x) (fun _ _=>.done)
  (fun acc n=>by simp only [qfD,ql (je _),cond_false])
  (fun acc n j x y hx hy=>by
   have hj:=(List.getElem?_eq_some_iff.1 hx).1
   simp only [qfD,qj hj,cond_true,qan hx,qan hy,jd,wS j])) .done)
theorem qxp {a:qr} (h:qd8 a≤1048576):Ev (fun n=>qiX n a) a:=by
 unfold qiX
 simp only [qd8] at h
 exact Ev.bind (qdG (a:=a.Bm) (by omega)) (Ev.bind (qdG (a:=a.Bj) (by omega)) (Ev.bind (qdG (a:=a.Bh) (by omega)) (.done)))
theorem qsn {a:(List qr)} (h:qda a≤1048576):Ev (fun n=>qhM n a) a:=by
 have hl:a.length≤1048576:=by simp only [qda] at h;omega
 unfold qhM
 exact Ev.bindN (qiA (by omega)) (Ev.bind (b:=(a,(a.length:Int))) (qjy (cp:=qiX) (fun x hx=>qxp (by have:=qcC (wt:=fun x:qr=>qd8 x) hx;simp only [qda] at h;omega))
  (fun acc n=>by simp only [qfJ,ql (je _),cond_false])
  (fun acc n j x y hx hy=>by
   have hj:=(List.getElem?_eq_some_iff.1 hx).1
   simp only [qfJ,qj hj,cond_true,qan hx,qan hy,jd,wS j])) .done)
theorem qzM {a:qF} (h:qi4 a≤1048576):Ev (fun n=>qk7 n a) a:=by
 unfold qk7
 simp only [qi4] at h
 exact Ev.bind (qsn (a:=a.Bn) (by omega)) (Ev.bind (qsn (a:=a.Bc) (by omega)) (.done))
theorem qyV {a:(List qF)} (h:qhB a≤1048576):Ev (fun n=>qlp n a) a:=by
 have hl:a.length≤1048576:=by simp only [qhB] at h;omega
 unfold qlp
 exact Ev.bindN (qiA (by omega)) (Ev.bind (b:=(a,(a.length:Int))) (qjy (cp:=qk7) (fun x hx=>qzM (by have:=qcC (wt:=fun x:qF=>qi4 x) hx;simp only [qhB] at h;omega))
  (fun acc n=>by simp only [qgT,ql (je _),cond_false])
  (fun acc n j x y hx hy=>by
   have hj:=(List.getElem?_eq_some_iff.1 hx).1
   simp only [qgT,qj hj,cond_true,qan hx,qan hy,jd,wS j])) .done)
theorem qzC {a:qal} (_:qk0 a≤1048576):Ev (fun n=>qkQ n a) a:=by
 unfold qkQ
 exact .done
theorem qyF {a:(List qal)} (h:qhC a≤1048576):Ev (fun n=>qls n a) a:=by
 have hl:a.length≤1048576:=by simp only [qhC] at h;omega
 unfold qls
 exact Ev.bindN (qiA (by omega)) (Ev.bind (b:=(a,(a.length:Int))) (qjy (cp:=qkQ) (fun x hx=>qzC (by have:=qcC (wt:=fun x:qal=>qk0 x) hx;simp only [qhC] at h;omega))
  (fun acc n=>by simp only [qgY,ql (je _),cond_false])
  (fun acc n j x y hx hy=>by
   have hj:=(List.getElem?_eq_some_iff.1 hx).1
   simp only [qgY,qj hj,cond_true,qan hx,qan hy,jd,wS j])) .done)
theorem qyf {a:qw} (h:qfH a≤1048576):Ev (fun n=>qjV n a) a:=by
 unfold qjV
 simp only [qfH] at h
 exact Ev.bind (qyF (a:=a.Bd) (by omega)) (Ev.bind (qyV (a:=a.Au) (by omega)) (Ev.bind (qdG (a:=a.Bo) (by omega)) (.done)))
theorem qxL {a:(List qw)} (h:qgf a≤1048576):Ev (fun n=>qkd n a) a:=by
 have hl:a.length≤1048576:=by simp only [qgf] at h;omega
 unfold qkd
 exact Ev.bindN (qiA (by omega)) (Ev.bind (b:=(a,(a.length:Int))) (qjy (cp:=qjV) (fun x hx=>qyf (by have:=qcC (wt:=fun x:qw=>qfH x) hx;simp only [qgf] at h;omega))
  (fun acc n=>by simp only [qgg,ql (je _),cond_false])
  (fun acc n j x y hx hy=>by
   have hj:=(List.getElem?_eq_some_iff.1 hx).1
   simp only [qgg,qj hj,cond_true,qan hx,qan hy,jd,wS j])) .done)
theorem qvk {a:qn} (h:qet a≤1048576):Ev (fun n=>qi0 n a) a:=by
 unfold qi0
 simp only [qet] at h
 exact Ev.bind (qxL (a:=a.Ar) (by omega)) (.done)
theorem quc {a:qi} (h:qbF a≤1048576):Ev (fun n=>qgp n a) a:=by
 unfold qgp
 simp only [qbF] at h
 exact Ev.bind (qdG (a:=a.Ak) (by omega)) (.done)
theorem qty {a:(List qi)} (h:qbN a≤1048576):Ev (fun n=>qhs n a) a:=by
 have hl:a.length≤1048576:=by simp only [qbN] at h;omega
 unfold qhs
 exact Ev.bindN (qiA (by omega)) (Ev.bind (b:=(a,(a.length:Int))) (qjy (cp:=qgp) (fun x hx=>quc (by have:=qcC (wt:=fun x:qi=>qbF x) hx;simp only [qbN] at h;omega))
  (fun acc n=>by simp only [qd1,ql (je _),cond_false])
  (fun acc n j x y hx hy=>by
   have hj:=(List.getElem?_eq_some_iff.1 hx).1
   simp only [qd1,qj hj,cond_true,qan hx,qan hy,jd,wS j])) .done)
theorem qve {a:(List ByteArray)} (h:qem a≤1048576):Ev (fun n=>qiZ n a) a:=by
 have hl:a.length≤1048576:=by simp only [qem] at h;omega
 unfold qiZ
 exact Ev.bindN (qiA (by omega)) (Ev.bind (b:=(a,(a.length:Int))) (qjy (cp:=fun _ x=>some x) (fun _ _=>.done)
  (fun acc n=>by simp only [qfi,ql (je _),cond_false])
  (fun acc n j x y hx hy=>by
   have hj:=(List.getElem?_eq_some_iff.1 hx).1
   simp only [qfi,qj hj,cond_true,qan hx,qan hy,jd,wS j])) .done)
theorem qyI {a:qL} (_:qh6 a≤1048576):Ev (fun n=>qj0 n a) a:=by
 unfold qj0
 exact .done
theorem qxn {a:(List qL)} (h:qf7 a≤1048576):Ev (fun n=>qkm n a) a:=by
 have hl:a.length≤1048576:=by simp only [qf7] at h;omega
 unfold qkm
 exact Ev.bindN (qiA (by omega)) (Ev.bind (b:=(a,(a.length:Int))) (qjy (cp:=qj0) (fun x hx=>qyI (by have:=qcC (wt:=fun x:qL=>qh6 x) hx;simp only [qf7] at h;omega))
  (fun acc n=>by simp only [qgi,ql (je _),cond_false])
  (fun acc n j x y hx hy=>by
   have hj:=(List.getElem?_eq_some_iff.1 hx).1
   simp only [qgi,qj hj,cond_true,qan hx,qan hy,jd,wS j])) .done)
theorem qv2 {a:qd} (h:qeJ a≤1048576):Ev (fun n=>qjo n a) a:=by
 unfold qjo
 simp only [qeJ] at h
 exact Ev.bind (qty (a:=a.Aa) (by omega)) (Ev.bind (qve (a:=a.Ak) (by omega)) (Ev.bind (qxn (a:=a.Aj) (by omega)) (.done)))
theorem qy3 {a:qD} (h:qfR a≤1048576):Ev (fun n=>qjD n a) a:=by
 unfold qjD
 simp only [qfR] at h
 exact Ev.bind (qdG (a:=a.Am) (by omega)) (Ev.bind (qdG (a:=a.Bw) (by omega)) (Ev.bind (qdG (a:=a.Bs) (by omega)) (Ev.bind (qdG (a:=a.Bl) (by omega)) (.done))))
theorem qxr {a:(List qD)} (h:qfX a≤1048576):Ev (fun n=>qkn n a) a:=by
 have hl:a.length≤1048576:=by simp only [qfX] at h;omega
 unfold qkn
 exact Ev.bindN (qiA (by omega)) (Ev.bind (b:=(a,(a.length:Int))) (qjy (cp:=qjD) (fun x hx=>qy3 (by have:=qcC (wt:=fun x:qD=>qfR x) hx;simp only [qfX] at h;omega))
  (fun acc n=>by simp only [qgr,ql (je _),cond_false])
  (fun acc n j x y hx hy=>by
   have hj:=(List.getElem?_eq_some_iff.1 hx).1
   simp only [qgr,qj hj,cond_true,qan hx,qan hy,jd,wS j])) .done)
theorem qyb {a:qg} (h:qf2 a≤1048576):Ev (fun n=>qku n a) a:=by
 unfold qku
 simp only [qf2] at h
 exact Ev.bind (qvk (a:=a.Av) (by omega)) (Ev.bind (qv2 (a:=a.Ab) (by omega)) (Ev.bind (qxr (a:=a.Ac) (by omega)) (.done)))
end Go.Fw


namespace Go.Fw
open Go
set_option maxRecDepth 100000
theorem qcK {n:Nat} {x lo hi:Int}:qav n x lo hi=some (inI x lo hi):=by
 simp only [qav,qm8,qpc];rfl
theorem qdi {n:Nat} {x lo hi:Int}:qaN n x lo hi=some (inI x lo hi):=by
 simp only [qaN,qm8,qpc];rfl
def bt (s:ByteArray) (j:Nat):Nat:=(s.data.toList.getD j 0).toNat
theorem qxi {s:ByteArray} {j:Nat} (h:j<s.size):atS s (j:Int)=some (bt s j:Int):=by
 have h':j<s.data.size:=h
 have hl:j<s.data.toList.length:=by simpa using h'
 unfold atS
 rw [if_pos (by omega),jn]
 have:s[j]?=some (s.data.toList.getD j 0):=by
  rw [getElem?_pos s j h,jC,ji hl]
  rfl
 rw [this]
 rfl
def letB (b:Nat):Bool:=decide (97≤b)&&decide (b≤122)
def digB (b:Nat):Bool:=decide (48≤b)&&decide (b≤57)
def chB (s:ByteArray) (j:Nat):Bool:=letB (bt s j) || digB (bt s j)&&decide (0<j)
def nameB (s:ByteArray):Bool:=(decide (1≤s.size)&&decide (s.size≤8))&&allN (chB s) s.size
theorem qmL {s:ByteArray} (h:okS s):Ev (fun n=>qf3 n s) (nameB s):=by
 unfold okS at h
 have hL:Ev (fun n=>qdR s n 0) (bif allN (chB s) s.size then .nxt (s.size:Int) else .ret false):=by
  refine qeK ?_ (fun j hj X hX=>?_)
  ·exact Ev.succ (by simp only [qdR,ql (je _),cond_false];exact .done)
  ·refine Ev.succ ?_
   simp only [qdR,qj hj,cond_true,qxi hj,jd,qm8,qpc,wS j]
   have e1:(decide ((bt s j:Int) ≥ 97)&&decide ((bt s j:Int)≤122))=letB (bt s j):=by unfold letB;rw [jm];simp;omega
   have e2:(decide ((bt s j:Int) ≥ 48)&&decide ((bt s j:Int)≤57))=digB (bt s j):=by unfold digB;rw [jm];simp;omega
   have e3:decide ((j:Int) > 0)=decide (0<j):=by rw [jm];simp
   rw [e1,e2,e3]
   unfold chB
   cases letB (bt s j)<;>cases digB (bt s j)<;>cases decide (0<j)<;>first|exact hX|exact .done
 unfold qf3
 refine Ev.cast (r:=bif allN (chB s) s.size then (decide (1≤s.size)&&decide (s.size≤8)) else false) (Ev.bindB hL (fun _=>?_) (fun _=>.done)) ?_
 ·simp only [qm8,qpc]
  exact Ev.now (by congr 1;rw [jm];simp;omega)
 ·unfold nameB
  cases allN (chB s) s.size<;>simp
def cutset:List UInt8:=[97,98,99,100,101,102,103,104,105,106,107,108,109,110,111,112,113,114,115,116,117,118,119,120,121,122,48,49,50,51,52,53,54,55,56,57]
theorem qqW (b:UInt8):cutset.contains b=(letB b.toNat || digB b.toNat):=by
 have h0:(List.range 256).all (fun m=>cutset.contains (UInt8.ofNat m)==(letB (UInt8.ofNat m).toNat || digB (UInt8.ofNat m).toNat))=true:=by kernel_rfl
 have h:=List.all_eq_true.1 h0 b.toNat (List.mem_range.2 b.toNat_lt)
 rw [beq_iff_eq] at h
 simpa using h
def letters:List UInt8:=[97,98,99,100,101,102,103,104,105,106,107,108,109,110,111,112,113,114,115,116,117,118,119,120,121,122]
theorem qvy (m:Nat) (hm:m<256):decide ((Lib.indexByte letters m.toUInt8) ≥ 0)=letB m:=by
 have h0:(List.range 256).all (fun m=>decide ((Lib.indexByte letters m.toUInt8) ≥ 0)==letB m)=true:=by kernel_rfl
 have h:=List.all_eq_true.1 h0 m (List.mem_range.2 hm)
 rwa [beq_iff_eq] at h
theorem qse {α:Type} {p:α→Bool} {l:List α}:l.dropWhile p=[]↔∀ x,x ∈ l→p x=true:=by
 induction l with
 | nil=>simp
 | cons y l ih =>
  rw [List.dropWhile_cons]
  by_cases h:p y=true
  ·rw [if_pos h,ih];simp [h]
  ·rw [if_neg h];simp [h]
theorem qrW {α:Type} {p:α→Bool} {l:List α} (h:∀ x,x ∈ l.dropWhile p→p x=true):∀ x,x ∈ l→p x=true:=by
 induction l with
 | nil=>simp
 | cons y l ih =>
  rw [List.dropWhile_cons] at h
  by_cases hy:p y=true
  ·rw [if_pos hy] at h
   intro x hx
   rcases List.mem_cons.1 hx with rfl|hx
   ·exact hy
   ·exact ih h x hx
  ·rw [if_neg hy] at h
   exact h
theorem qwW {l cs:List UInt8}:Lib.trimS l cs=[]↔∀ x,x ∈ l→cs.contains x=true:=by
 unfold Lib.trimS Lib.trimRightS Lib.trimLeftS
 rw [qse]
 constructor
 ·intro h x hx
  exact qrW (p:=(cs.contains ·)) (l:=l.reverse) (fun y hy=>h y (List.mem_reverse.2 hy)) x (List.mem_reverse.2 hx)
 ·intro h x hx
  exact h x (List.mem_reverse.1 ((List.dropWhile_suffix _).subset (List.mem_reverse.1 hx)))
theorem qhE {a b:ByteArray}:(a.toList==b.toList)=decide (a=b):=by
 rw [jm,beq_iff_eq,decide_eq_true_iff]
 constructor
 ·intro h
  exact ByteArray.ext (by have:=congrArg List.toArray h;simpa [ByteArray.toList_eq] using this)
 ·rintro rfl;rfl
end Go.Fw


namespace Go.Fw
open Go
set_option maxRecDepth 100000
theorem qzl {s:ByteArray} {j:Nat} (h:j<s.data.toList.length):bt s j=(s.data.toList[j]).toNat:=by
 unfold bt;rw [jC,ji h];rfl
theorem qz1 {s:ByteArray} {j:Nat}:bt s j<256:=UInt8.toNat_lt _
theorem qpq {n:Nat} {s:ByteArray} (h:okS s):qin n s=some (nameB s):=by
 unfold okS at h
 have hl:s.data.toList.length=s.size:=by simp
 simp only [qin,qdi,jd]
 cases hI:inI (s.size:Int) 1 8 with
 | false =>
  have hs:(decide (1≤s.size)&&decide (s.size≤8))=false:=by rw [qwc] at hI;rw [Bool.and_eq_false_iff,decide_eq_false_iff_not,decide_eq_false_iff_not];omega
  simp [nameB,hs]
 | true =>
  have hs:1≤s.size∧s.size≤8:=by rw [qbd] at hI;omega
  have hT:qiK n s (⟨#[97,98,99,100,101,102,103,104,105,106,107,108,109,110,111,112,113,114,115,116,117,118,119,120,121,122,48,49,50,51,52,53,54,55,56,57]⟩:ByteArray)=some ⟨(Lib.trimS s.data.toList cutset).toArray⟩:=by
   unfold qiK
   rw [if_pos ⟨by omega,by decide,by decide⟩]
   rfl
  rw [hT]
  simp only [cond_true,jd]
  have hE:(((⟨(Lib.trimS s.data.toList cutset).toArray⟩:ByteArray).toList==(⟨#[]⟩:ByteArray).toList))=allN (fun j=>letB (bt s j) || digB (bt s j)) s.size:=by
   rw [qhE,jm,decide_eq_true_iff,qai]
   have:((⟨(Lib.trimS s.data.toList cutset).toArray⟩:ByteArray)=⟨#[]⟩)↔Lib.trimS s.data.toList cutset=[]:=by
    constructor
    ·intro he
     have:=congrArg (fun x:ByteArray=>x.data.toList) he
     simpa using this
    ·intro he;rw [he]
   rw [this,qwW]
   constructor
   ·intro hx j hj
    have hj':j<s.data.toList.length:=by omega
    have:=hx _ (jp hj')
    rw [qqW,←qzl hj'] at this
    exact this
   ·intro hx x hm
    obtain ⟨j,hj,rfl⟩:=jO hm
    have:=hx j (by omega)
    rw [qqW,←qzl hj]
    exact this
  rw [hE]
  have h0:atS s 0=some (bt s 0:Int):=qxi (j:=0) (by omega)
  have hI2:decide (Lib.indexByte letters (bt s 0:Int).toNat.toUInt8 ≥ 0)=letB (bt s 0):=by
   rw [jn];exact qvy _ qz1
  have hF:∀ b:Bool,(bif b then (atS s 0).bind fun y1=>(qgH n (⟨#[97,98,99,100,101,102,103,104,105,106,107,108,109,110,111,112,113,114,115,116,117,118,119,120,121,122]⟩:ByteArray) (⟨y1⟩:IntK .u8)).bind fun r3=>some (decide (r3 ≥ 0)) else some false)=some (b&&letB (bt s 0)):=by
   intro b
   cases b with
   | false=>rfl
   | true =>
    rw [h0]
    simp only [cond_true,jd,qgH,jA]
    exact congrArg some hI2
  rw [hF]
  congr 1
  have hs':(decide (1≤s.size)&&decide (s.size≤8))=true:=by simp [hs]
  unfold nameB
  rw [hs',jA,jm,jf,qai,qai]
  simp only [chB,Bool.or_eq_true,jf,decide_eq_true_eq]
  constructor
  ·rintro ⟨h1,h2⟩ j hj
   rcases Nat.eq_zero_or_pos j with rfl|hp
   ·exact .inl h2
   ·exact (h1 j hj).imp id (fun h=>⟨h,hp⟩)
  ·intro h1
   refine ⟨fun j hj=>(h1 j hj).imp id (fun h=>h.1),?_⟩
   rcases h1 0 (by omega) with h2|h2
   ·exact h2
   ·omega
def strAt (xs:List ByteArray) (j:Nat):ByteArray:=xs.getD j ByteArray.empty
theorem qoY {xs:List ByteArray} {j:Nat} (h:j<xs.length):strAt xs j=xs[j]:=by simp [strAt,h]
theorem qqK {xs:List ByteArray} {j:Nat} (h:j<xs.length):idx xs (j:Int)=some (strAt xs j):=by rw [qgS h,qoY h]
def neB (xs:List ByteArray) (j i:Nat):Bool:=!decide (strAt xs i=strAt xs j)
def namesB (xs:List ByteArray):Bool:=allN (fun j=>nameB (strAt xs j)&&allN (neB xs j) j) xs.length
theorem qnr {xs:List ByteArray} (h:okL okS xs):Ev (fun n=>qgw n xs) (namesB xs):=by
 have hl:=h.len
 have hL2:∀ j,j<xs.length→Ev (fun n=>qel xs (j:Int) n 0) (bif allN (neB xs j) j then .nxt (j:Int) else .ret false):=by
  intro j hj
  refine qeK ?_ (fun i hi X hX=>Ev.succ ?_)
  ·exact Ev.succ (by simp only [qel,ql (je _),cond_false];exact .done)
  ·simp only [qel,qj hi,cond_true,qqK (show i<xs.length by omega),qqK hj,jd,qhE,wS i]
   unfold neB
   cases decide (strAt xs i=strAt xs j)
   ·exact hX
   ·exact .done
 have hL1:Ev (fun n=>qes xs n 0) (bif namesB xs then .nxt (xs.length:Int) else .ret false):=by
  refine qeK ?_ (fun j hj X hX=>Ev.succ ?_)
  ·exact Ev.succ (by simp only [qes,ql (je _),cond_false];exact .done)
  ·simp only [qes,qj hj,cond_true,qqK hj,jd,wS j]
   refine Ev.bind (qmL (by rw [qoY hj];exact h.at hj)) ?_
   cases nameB (strAt xs j)
   ·exact .done
   ·refine Ev.ff rfl (Ev.bind (hL2 j hj) ?_)
    cases allN (neB xs j) j
    ·exact .done
    ·exact hX
 unfold qgw
 refine Ev.bind hL1 ?_
 cases namesB xs<;>exact .done
theorem quD {xs:List ByteArray} {v:ByteArray} (hl:xs.length≤1048576):Ev (fun n=>qfw n xs v) (ixL (fun x=>decide (v=x)) xs) :=
 qfO (fin:=(xs.length:Int)) (Lf:=qbW xs v) (pf:=fun _ x=>some (decide (v=x))) (fun _ _=>.done)
  (fun n=>by simp only [qbW,ql (je _),cond_false])
  (fun n j x hx=>by
   have hj:=(List.getElem?_eq_some_iff.1 hx).1
   simp only [qbW,qj hj,cond_true,qan hx,jd,qhE,wS j])
  (fun n=>by unfold qfw;congr 1;funext o;cases o<;>rfl)
theorem qre {xs:List ByteArray} {v:ByteArray} (hl:xs.length≤1048576):Ev (fun n=>qea n xs v) (xs.any fun x=>decide (v=x)):=by
 unfold qea
 exact Ev.bind (quD hl) (Ev.now (by rw [qm5]))
theorem qjI {xs:List ByteArray} (h:okL okS xs):Ev (fun n=>qee n xs) (namesB xs):=by
 have hl:=h.len
 have hL1:Ev (fun n=>qef xs n 0) (bif namesB xs then .nxt (xs.length:Int) else .ret false):=by
  refine qeK ?_ (fun j hj X hX=>Ev.succ ?_)
  ·exact Ev.succ (by simp only [qef,ql (je _),cond_false];exact .done)
  ·have hs:subS xs 0 (j:Int)=some (xs.take j):=by
    unfold subS
    rw [if_pos ⟨by omega,by omega,by omega⟩]
    simp
   simp only [qef,qj hj,cond_true,qqK hj,jd,hs,qpq (show okS (strAt xs j) by rw [qoY hj];exact h.at hj),wS j]
   cases nameB (strAt xs j)
   ·exact .done
   ·refine Ev.ff rfl (Ev.bind (qre (by simp;omega)) ?_)
    have:((xs.take j).any fun x=>decide (strAt xs j=x)) = !allN (neB xs j) j:=by
     rw [quE (d:=ByteArray.empty)]
     congr 1
     rw [jS,Nat.min_eq_left (by omega)]
     refine qid (fun i hi=>?_)
     unfold neB strAt
     congr 1
     have:(xs.take j).getD i ByteArray.empty=xs.getD i ByteArray.empty:=by simp [jC,hi]
     rw [this]
     exact decide_eq_decide.2 eq_comm
    rw [this]
    cases allN (neB xs j) j
    ·exact .done
    ·exact hX
 unfold qee
 refine Ev.bind hL1 ?_
 cases namesB xs<;>exact .done
end Go.Fw


namespace Go.Fw
open Go
set_option maxRecDepth 100000
theorem qsa {n:Nat} {x lo hi:Int}:qhe n x lo hi=some (!inI x lo hi):=by simp only [qhe,qdi,jd]
theorem qfb {xs:List Int} {lo hi:Int} (hl:xs.length≤1048576):Ev (fun n=>qbO n xs lo hi) (xs.all fun x=>inI x lo hi):=by
 have h1:Ev (fun n=>qa0 n xs lo hi) (ixL (fun x=>!inI x lo hi) xs) :=
  qfO (fin:=(xs.length:Int)) (Lf:=qah xs lo hi) (pf:=fun _ x=>some (!inI x lo hi)) (fun _ _=>.done)
   (fun n=>by simp only [qah,ql (je _),cond_false])
   (fun n j x hx=>by
    have hj:=(List.getElem?_eq_some_iff.1 hx).1
    simp only [qah,qj hj,cond_true,qan hx,jd,qsa,wS j])
   (fun n=>by unfold qa0;congr 1;funext o;cases o<;>rfl)
 unfold qbO qbw
 refine Ev.bind (Ev.bind h1 (Ev.now rfl)) (Ev.now ?_)
 rw [qm5,qoS]
def stepB (xs:List Int) (j:Nat):Bool:=decide (j=0) || decide (at0 xs (j-1)<at0 xs j)
def incB (xs:List Int):Bool:=allN (stepB xs) xs.length
theorem qmQ {xs:List Int} (hl:xs.length≤1048576):Ev (fun n=>qe8 n xs) (incB xs):=by
 have hL:Ev (fun n=>qbt xs n 1) (bif incB xs then .nxt (max 1 xs.length:Int) else .ret false):=by
  by_cases h0:xs.length=0
  ·have hb:incB xs=true:=by unfold incB;rw [h0];rfl
   rw [hb]
   refine Ev.succ ?_
   have:decide ((1:Int)<(xs.length:Int))=false:=by rw [h0];decide
   simp only [qbt,this,cond_false]
   exact Ev.now (by rw [h0];rfl)
  ·have:=qvG (Lf:=qbt xs) (len:=xs.length) (i0:=1) (f:=stepB xs) (bad:=false) (fin:=.nxt (max 1 xs.length:Int)) (by omega)
    (Ev.succ (by
     simp only [qbt,ql (je _),cond_false]
     exact Ev.now (by congr 2;omega)))
    (fun j h1 hj X hX=>Ev.succ (by
     simp only [qbt,qj hj,cond_true,wS j,show (j:Int)-1=((j-1:Nat):Int) by omega,qN (show -9223372036854775808≤((j-1:Nat):Int) by omega) (by omega),qak (show j-1<xs.length by omega),qak hj,jd]
     unfold stepB
     by_cases hc:at0 xs (j-1)<at0 xs j
     ·have e1:decide (at0 xs (j-1) ≥ at0 xs j)=false:=by simp;omega
      rw [e1];simp only [hc,decide_true,Bool.or_true,cond_true,cond_false];exact hX
     ·have e1:decide (at0 xs (j-1) ≥ at0 xs j)=true:=by simp;omega
      have e2:decide (j=0)=false:=by simp;omega
      rw [e1,e2];simp only [hc,decide_false,Bool.or_self,cond_true,cond_false];exact .done))
   have e:allN (fun j=>stepB xs (1+j)) (xs.length-1)=incB xs:=by
    unfold incB
    rw [jm,qai,qai]
    constructor
    ·intro h j hj
     cases j with
     | zero=>rfl
     | succ j=>have:=h j (by omega);rwa [Nat.add_comm] at this
    ·intro h j hj
     exact h (1+j) (by omega)
   rw [e] at this
   exact this
 unfold qe8
 refine Ev.bind hL ?_
 cases incB xs<;>exact .done
def lenB {α:Type} (xs:List α) (lo hi:Nat):Bool:=decide (lo≤xs.length)&&decide (xs.length≤hi)
theorem qs9 {α:Type} {xs:List α} {lo hi:Nat}:inI (xs.length:Int) (lo:Int) (hi:Int)=lenB xs lo hi:=by
 unfold inI lenB;rw [jm];simp
def axisB (xs:List Int):Bool:=lenB xs 1 4&&((xs.all fun x=>inI x 0 100000)&&incB xs)
theorem qsu {xs:List Int} (hl:xs.length≤1048576):Ev (fun n=>qjK n xs) (axisB xs):=by
 simp only [qjK,qbr,jd,qdi,show inI (xs.length:Int) 1 4=lenB xs 1 4 from qs9 (lo:=1) (hi:=4)]
 unfold axisB
 cases lenB xs 1 4
 ·exact .done
 ·refine Ev.tt rfl (Ev.bind (qfb hl) ?_)
  cases (xs.all fun x=>inI x 0 100000)
  ·exact .done
  ·exact Ev.tt rfl (Ev.bind (qmQ hl) .done)
theorem qro {xs:List Int} (hl:xs.length≤1048576):Ev (fun n=>qiE n xs) (axisB xs):=by
 have hL:Ev (fun n=>qdM xs n 0) (bif allN (fun j=>inI (at0 xs j) 0 100000&&stepB xs j) xs.length then .nxt (xs.length:Int) else .ret false):=by
  refine qeK ?_ (fun j hj X hX=>Ev.succ ?_)
  ·exact Ev.succ (by simp only [qdM,ql (je _),cond_false];exact .done)
  ·simp only [qdM,qj hj,cond_true,qak hj,jd,qcK,wS j]
   cases inI (at0 xs j) 0 100000
   ·exact .done
   ·simp only [Jc,cond_false,jA]
    unfold stepB
    by_cases h0:j=0
    ·subst h0
     exact Ev.ff (by decide) hX
    ·simp only [show (j:Int)-1=((j-1:Nat):Int) by omega,qN (show -9223372036854775808≤((j-1:Nat):Int) by omega) (by omega),qak (show j-1<xs.length by omega),jd]
     have e2:decide (j=0)=false:=by simp;omega
     have e3:decide ((j:Int) > 0)=true:=by simp;omega
     rw [e2,e3]
     simp only [cond_true,Bool.false_or]
     by_cases hc:at0 xs (j-1)<at0 xs j
     ·have e1:decide (at0 xs (j-1) ≥ at0 xs j)=false:=by simp;omega
      rw [e1];simp only [hc,decide_true,cond_true,cond_false];exact hX
     ·have e1:decide (at0 xs (j-1) ≥ at0 xs j)=true:=by simp;omega
      rw [e1];simp only [hc,decide_false,cond_true,cond_false];exact .done
 have e:axisB xs=(allN (fun j=>inI (at0 xs j) 0 100000&&stepB xs j) xs.length&&lenB xs 1 4):=by
  unfold axisB incB
  rw [qlR,qg4 (d:=0),Bool.and_comm]
  rfl
 rw [e]
 unfold qiE
 refine Ev.bind hL ?_
 cases allN (fun j=>inI (at0 xs j) 0 100000&&stepB xs j) xs.length
 ·exact .done
 ·simp only [cond_true,qm8,qpc,jA]
  exact Ev.now (by congr 1;unfold lenB;rw [jm];simp;omega)
def tableB (t:qr):Bool:=axisB t.Bm&&(axisB t.Bj&&(decide (t.Bh.length=t.Bm.length*t.Bj.length)&&(t.Bh.all fun x=>inI x (-1000000) 1000000)))
theorem qvI {a b:Nat} (ha:a≤1048576) (hb:b≤1048576):W64 ((a:Int)*(b:Int))=((a*b:Nat):Int):=by
 have h:a*b≤1048576*1048576:=Nat.mul_le_mul ha hb
 have e:(a:Int)*(b:Int)=((a*b:Nat):Int):=by simp
 rw [e]
 exact qN (by omega) (by omega)
theorem quM {t:qr} (h:qiO t):Ev (fun n=>qkf n t) (tableB t):=by
 unfold qkf tableB
 refine Ev.bind (qsu h.Bm.len) ?_
 cases axisB t.Bm
 ·exact .done
 ·refine Ev.tt rfl (Ev.bind (qsu h.Bj.len) ?_)
  cases axisB t.Bj
  ·exact .done
  ·rw [qvI h.Bm.len h.Bj.len]
   have e:(((t.Bh.length:Nat):Int)==((t.Bm.length*t.Bj.length:Nat):Int))=decide (t.Bh.length=t.Bm.length*t.Bj.length):=by rw [jm];simp;omega
   rw [e]
   cases decide (t.Bh.length=t.Bm.length*t.Bj.length)
   ·exact .done
   ·exact Ev.tt rfl (Ev.tt rfl (Ev.bind (qfb h.Bh.len) .done))
theorem qug {t:qr} (h:qiO t):Ev (fun n=>qkg n t) (tableB t):=by
 have hl:=h.Bh.len
 have hL:Ev (fun n=>qeS t n 0) (bif (t.Bh.all fun x=>inI x (-1000000) 1000000) then .nxt (t.Bh.length:Int) else .ret false) :=
  qoF (fun n=>by simp only [qeS,ql (je _),cond_false]) (fun j hj X hX=>by
   simp only [qeS,qj hj,cond_true,qgS hj,jd,qcK,wS j]
   cases inI t.Bh[j] (-1000000) 1000000
   ·exact .done
   ·exact hX)
 unfold qkg tableB
 refine Ev.bind (b:=!(axisB t.Bm&&(axisB t.Bj&&decide (t.Bh.length=t.Bm.length*t.Bj.length)))) ?_ ?_
 ·refine Ev.bind (qro h.Bm.len) ?_
  cases axisB t.Bm
  ·exact .done
  ·refine Ev.ff rfl (Ev.bind (qro h.Bj.len) ?_)
   cases axisB t.Bj
   ·exact .done
   ·refine Ev.ff rfl (Ev.now ?_)
    rw [qvI h.Bm.len h.Bj.len]
    congr 1
    rw [jm];simp;omega
 ·cases axisB t.Bm
  ·exact .done
  ·cases axisB t.Bj
   ·exact .done
   ·cases decide (t.Bh.length=t.Bm.length*t.Bj.length)
    ·exact .done
    ·refine Ev.ff rfl (Ev.bind hL ?_)
     cases (t.Bh.all fun x=>inI x (-1000000) 1000000)<;>exact .done
end Go.Fw


namespace Go.Fw
open Go
set_option maxRecDepth 100000
instance:Inhabited qal:=⟨⟨ByteArray.empty,0,0,false⟩⟩
instance:Inhabited qr:=⟨⟨[],[],[]⟩⟩
instance:Inhabited qF:=⟨⟨0,0,0,0,[],[]⟩⟩
instance:Inhabited qw:=⟨⟨ByteArray.empty,0,[],[],[],0,0⟩⟩
instance:Inhabited qi:=⟨⟨ByteArray.empty,0,[]⟩⟩
instance:Inhabited qL:=⟨⟨ByteArray.empty,0,0⟩⟩
instance:Inhabited qD:=⟨⟨[],[],[],[]⟩⟩
theorem lastE {j m:Nat} (h:j<m) (hm:m≤1048576):((j:Int)==W64 ((m:Int)-1))=decide (j+1=m):=by
 rcases qyS h with h|h
 ·exact h
 ·omega
theorem qkz {α:Type} [Inhabited α] {xs:List α} {g:α→ByteArray} {j:Nat} (h:j<xs.length):strAt (xs.map g) j=g (gt xs j):=by
 rw [qoY (by simpa using h),qe3 h];simp
theorem qnO {α:Type} {xs:List α} {g:α→ByteArray} {ok:α→Prop} (h:okL ok xs) (hg:∀ x,ok x→okS (g x)):okL okS (xs.map g) :=
 ⟨by rw [jz];exact h.1,fun y hy=>by
  obtain ⟨x,hx,rfl⟩:=List.mem_map.1 hy
  exact hg x (h.2 x hx)⟩
theorem qlY {α β:Type} {xs:List α} {g:α→β} {j:Nat} (h:j<xs.length) (hl:xs.length≤1048576) {y:β}:appS ((xs.take j).map g) [y]=some ((xs.take j).map g++[y]) :=
 qc6 (by simp;omega)
def pinB (ps:List qal) (j:Nat):Bool :=
 bif decide (j+1=ps.length) then ((gt ps j).Bv==2)&&(((gt ps j).Bs==0)&&!(gt ps j).Br) else ((gt ps j).Bv==1)&&inI (gt ps j).Bs 0 500
def pinsB (ps:List qal):Bool:=allN (pinB ps) ps.length&&(lenB ps 2 5&&namesB (ps.map qal.Bb))
def clkN (ps:List qal) (j:Nat):Nat:=cntP (fun i=>(gt ps i).Br) j
theorem qu4 {ps:List qal} (h:okL qnF ps):Ev (fun n=>qkp n ps) (pinsB ps):=by
 have hl:=h.len
 have hL:Ev (fun n=>qc0 ps n ([]:List ByteArray) 0) (bif allN (pinB ps) ps.length then .nxt (ps.map qal.Bb,(ps.length:Int)) else .ret false):=by
  refine loopN (Lf:=qc0 ps) (S:=fun j=>(ps.take j).map qal.Bb) (pinB ps) (fun n=>?_) (fun j hj hp X hX=>?_)
  ·simp only [qc0,ql (je _),cond_false,jD]
  ·simp only [qc0,qj hj,cond_true,qA hj,jd,qlY hj hl,qf5 (g:=qal.Bb) hj,lastE hj hl,bne,qc8,qdi,wS j]
   generalize hc:pinB ps j=c at hX ⊢
   unfold pinB at hc
   cases hd:decide (j+1=ps.length)
   ·rw [hd] at hc
    simp only [cond_false] at hc ⊢
    subst hc
    exact Ev.okP (fun h1=>Ev.okP1 (fun h2=>hX (by rw [h1,h2];rfl)))
   ·rw [hd] at hc
    simp only [cond_true] at hc ⊢
    subst hc
    refine Ev.okP (fun h1=>Ev.okP (fun h2=>Ev.chkP1 (fun h3=>hX (by rw [h1,h2,h3];rfl))))
 unfold qkp pinsB
 refine Ev.bind hL ?_
 cases allN (pinB ps) ps.length
 ·exact .done
 ·simp only [cond_true,qcs,qdi,jd,show inI (ps.length:Int) 2 5=lenB ps 2 5 from qs9 (lo:=2) (hi:=5),jA]
  exact Ev.andP (fun _=>Ev.last (qjI (qnO h (fun x hx=>hx.Bb))))
def pinS (ps:List qal) (j:Nat):Bool:=allN (neB (ps.map qal.Bb) j) j&&((nameB (gt ps j).Bb&&inI (gt ps j).Bs 0 500)&&(bif decide (j+1=ps.length) then ((gt ps j).Bv==2)&&(((gt ps j).Bs==0)&&!(gt ps j).Br) else ((gt ps j).Bv==1)))
theorem qyJ {ps:List qal}:(lenB ps 2 5&&allN (pinS ps) ps.length)=pinsB ps:=by
 have e:namesB (ps.map qal.Bb)=allN (fun j=>nameB (gt ps j).Bb&&allN (neB (ps.map qal.Bb) j) j) ps.length:=by
  unfold namesB
  rw [jz]
  exact qid (fun j hj=>by rw [qkz hj])
 unfold pinsB
 rw [e,←Bool.and_assoc,Bool.and_comm (allN (pinB ps) ps.length),Bool.and_assoc,←qlR]
 congr 1
 refine qid (fun j hj=>?_)
 unfold pinS pinB
 cases hd:decide (j+1=ps.length)
 ·simp only [cond_false]
  cases allN (neB (ps.map qal.Bb) j) j<;>cases nameB (gt ps j).Bb<;>cases inI (gt ps j).Bs 0 500<;>cases ((gt ps j).Bv==1)<;>rfl
 ·simp only [cond_true]
  cases hcap:((gt ps j).Bs==0)
  ·simp
  ·have:inI (gt ps j).Bs 0 500=true:=by rw [beq_iff_eq] at hcap;rw [hcap];rfl
   rw [this]
   cases allN (neB (ps.map qal.Bb) j) j<;>cases nameB (gt ps j).Bb<;>cases ((gt ps j).Bv==2)<;>cases (gt ps j).Br<;>rfl
theorem qvj {c:qw} (h:okL qnF c.Bd):Ev (fun n=>qkv n c) (bif pinsB c.Bd then (((clkN c.Bd c.Bd.length:Nat):Int),true) else (0,false)):=by
 have hl:=h.len
 have hL2:∀ j,j<c.Bd.length→Ev (fun n=>qeX c (j:Int) (gt c.Bd j) n 0) (bif allN (neB (c.Bd.map qal.Bb) j) j then .nxt (j:Int) else .ret (0,false)):=by
  intro j hj
  refine qeK ?_ (fun i hi X hX=>Ev.succ ?_)
  ·exact Ev.succ (by simp only [qeX,ql (je _),cond_false];exact .done)
  ·simp only [qeX,qj hi,cond_true,qA (show i<c.Bd.length by omega),jd,qhE,wS i]
   unfold neB
   rw [qkz (g:=qal.Bb) (show i<c.Bd.length by omega),qkz (g:=qal.Bb) hj]
   exact Ev.chkP1 (fun _=>hX)
 have hL1:Ev (fun n=>qc2 c n 0 0) (bif allN (pinS c.Bd) c.Bd.length then .nxt (((clkN c.Bd c.Bd.length:Nat):Int),(c.Bd.length:Int)) else .ret (0,false)):=by
  refine loopN (Lf:=qc2 c) (S:=fun j=>((clkN c.Bd j:Nat):Int)) (pinS c.Bd) (fun n=>?_) (fun j hj hp X hX=>?_)
  ·simp only [qc2,ql (je _),cond_false]
  ·have hn:clkN c.Bd j≤j:=qge
   have ejl:((j:Int)==W64 ((c.Bd.length:Int)-1))=decide (j+1=c.Bd.length):=lastE hj hl
   have elt:decide ((j:Int)<W64 ((c.Bd.length:Int)-1)) = !decide (j+1=c.Bd.length):=by
    rw [qN (by omega) (by omega),jm];simp;omega
   simp only [qc2,qj hj,cond_true,qA hj,jd,wS j,qc7 (show clkN c.Bd j<9223372036854775807 by omega),ejl,elt,qcK]
   unfold pinS
   refine Ev.bind (hL2 j hj) ?_
   cases ha:allN (neB (c.Bd.map qal.Bb) j) j
   ·exact .done
   ·simp only [cond_true,jA]
    refine Ev.chkT ?_ (fun h1=>?_)
    ·exact Ev.or (qmL (qng h hj).Bb) (fun _=>.done)
    ·refine Ev.chkT1 ?_ (fun h2=>?_)
     ·cases decide (j+1=c.Bd.length)
      ·exact .done
      ·simp only [cond_true,Jc,cond_false,bne,qc8]
       cases ((gt c.Bd j).Bv==2)<;>cases ((gt c.Bd j).Bs==0)<;>cases (gt c.Bd j).Br<;>exact .done
     ·have hX:=hX (by unfold pinS;rw [ha,h1,h2];rfl)
      have hck:clkN c.Bd (j+1)=clkN c.Bd j+(bif (gt c.Bd j).Br then 1 else 0):=rfl
      rw [hck] at hX
      cases hc:(gt c.Bd j).Br
      ·rw [hc] at hX;exact Ev.ff rfl hX
      ·rw [hc] at hX;exact Ev.tt rfl hX
 rw [←qyJ]
 unfold qkv
 refine Ev.guard ?_ (fun h1=>?_)
 ·unfold lenB
  have e1:decide ((c.Bd.length:Int)<2) = !decide (2≤c.Bd.length):=by rw [jm];simp;omega
  have e2:decide ((c.Bd.length:Int) > 5) = !decide (c.Bd.length≤5):=by rw [jm];simp;omega
  rw [e1,e2]
  cases decide (2≤c.Bd.length)<;>cases decide (c.Bd.length≤5)<;>exact .done
 ·refine Ev.bind hL1 ?_
  cases allN (pinS c.Bd) c.Bd.length<;>exact .done
def mnL (xs:List Int):Int:=(xs.drop 1).foldl (fun m y=>if y<m then y else m) (at0 xs 0)
def mxL (xs:List Int):Int:=(xs.drop 1).foldl (fun m y=>if y > m then y else m) (at0 xs 0)
theorem qq7 {t:qr} (h:tableB t=true):1≤t.Bh.length:=by
 unfold tableB axisB lenB at h
 simp only [jf,decide_eq_true_eq] at h
 obtain ⟨⟨⟨h1,_⟩,_⟩,⟨⟨h2,_⟩,_⟩,h3,_⟩:=h
 rw [h3]
 exact Nat.mul_pos h1 h2
theorem qye {xs:List Int} (h1:1≤xs.length) (hl:xs.length≤1048576):Ev (fun n=>qho n xs) (mnL xs):=by
 have hL:=(qpI (Lf:=fun n t j=>qcR xs n t j) (xs:=xs) (step:=fun (m y:Int)=>if y<m then y else m) (fin:=fun t=>(t,(xs.length:Int))) 1 (at0 xs 0) (fun _ _=>True) h1 trivial (fun _ _ _ _=>trivial)
  (fun n t=>by simp only [qcR,ql (je _),cond_false])
  (fun j t hj _ X hX=>by simpa only [qcR,qj hj,cond_true,qgS hj,jd,wS j] using hX)).1
 unfold qho
 rw [show decide ((xs.length:Int)<1)=false by simp;omega,show idx xs (0:Int)=some (at0 xs 0) from qak (j:=0) (by omega)]
 simp only [cond_false,jd]
 exact Ev.bind hL .done
theorem qu3 {t:qr} (h:qiO t):Ev (fun n=>qhw n t) (bif tableB t then (⟨mnL t.Bh,mxL t.Bh⟩,0) else (⟨0,0⟩,1)):=by
 unfold qhw
 refine Ev.chk1 (qug h) (fun hb=>?_)
 have h1:=qq7 hb
 have hl:=h.Bh.len
 have hL:=(qpI (Lf:=fun n (t':Int × Int) j=>qcU t n t'.1 t'.2 j) (xs:=t.Bh) (step:=fun (m:Int × Int) y=>(if y<m.1 then y else m.1,if y > m.2 then y else m.2)) (fin:=fun t'=>(t'.1,t'.2,(t.Bh.length:Int))) 1 (at0 t.Bh 0,at0 t.Bh 0) (fun _ _=>True) h1 trivial (fun _ _ _ _=>trivial)
  (fun n t=>by simp only [qcU,ql (je _),cond_false])
  (fun j t hj _ X hX=>by simpa only [qcU,qj hj,cond_true,qgS hj,jd,wS j] using hX)).1
 have hf:∀ (ys:List Int) (a b:Int),ys.foldl (fun (m:Int × Int) y=>(if y<m.1 then y else m.1,if y > m.2 then y else m.2)) (a,b)=(ys.foldl (fun m y=>if y<m then y else m) a,ys.foldl (fun m y=>if y > m then y else m) b):=by
  intro ys
  induction ys with
  | nil=>intro a b;rfl
  | cons y ys ih=>intro a b;simp only [List.foldl_cons,ih]
 rw [hf] at hL
 rw [show idx t.Bh (0:Int)=some (at0 t.Bh 0) from qak (j:=0) (by omega)]
 simp only [jd]
 exact Ev.bind hL .done
def tabB (pos:Bool) (t:qr):Bool:=tableB t&&(!pos || decide (0≤mnL t.Bh))
def tablesB (ts:List qr) (pos:Bool):Bool:=decide (ts.length=2)&&ts.all (tabB pos)
theorem qmC {ts:List qr} {pos:Bool} (h:okL qiO ts):Ev (fun n=>qfS n ts pos) (tablesB ts pos):=by
 have hl:=h.len
 have h1:Ev (fun n=>qaG n ts pos) (ixL (fun x=>!tabB pos x) ts) :=
  qfO (fin:=(ts.length:Int)) (Lf:=qS ts pos) (pf:=fun n x=>qhv n x pos) (fun x hx=>by
    unfold qhv tabB
    refine Ev.or (quM (h.2 x hx)) (fun hb=>?_)
    cases pos
    ·exact .done
    ·refine Ev.tt rfl (Ev.bind (qye (qq7 hb) (h.2 x hx).Bh.len) (Ev.now ?_))
     congr 1
     rw [jm];simp)
   (fun n=>by simp only [qS,ql (je _),cond_false])
   (fun n j x hx=>by
    have hj:=(List.getElem?_eq_some_iff.1 hx).1
    simp only [qS,qj hj,cond_true,qan hx,jd,wS j])
   (fun n=>by unfold qaG;congr 1;funext o;cases o<;>rfl)
 unfold qfS qa4 tablesB
 rw [show ((ts.length:Int)==2)=decide (ts.length=2) by rw [jm];simp;omega]
 refine Ev.andP (fun _=>Ev.bind (Ev.bind h1 (Ev.now rfl)) (Ev.now ?_))
 rw [qm5,qoS]
theorem qiB {ts:List qr} {pos:Bool} (h:okL qiO ts):Ev (fun n=>qdt n ts pos) (tablesB ts pos):=by
 unfold qdt tablesB
 rw [show ((ts.length:Int) != 2) = !decide (ts.length=2) by rw [jm];simp;omega]
 simp only [qc8]
 refine Ev.andP (fun h2=>?_)
 have h2:ts.length=2:=by simpa using h2
 have hL:Ev (fun n=>qcD ts pos n 0) (bif allN (fun j=>tabB pos (gt ts j)) ts.length then .nxt (2:Int) else .ret false):=by
  refine qeK (len:=ts.length) ?_ (fun j hj X hX=>Ev.succ ?_)
  ·rw [h2];exact Ev.succ (by simp only [qcD];exact .done)
  ·simp only [qcD,show decide ((j:Int)<2)=true by simp;omega,cond_true,qA hj,jd,wS j]
   refine Ev.bind (qu3 (qng h hj)) ?_
   unfold tabB
   cases tableB (gt ts j)
   ·exact .done
   ·simp only [cond_true,jA]
    refine Ev.ff rfl ?_
    cases pos
    ·exact hX
    ·refine Ev.tt rfl ?_
     rw [show decide (mnL (gt ts j).Bh<0) = !decide (0≤mnL (gt ts j).Bh) by rw [jm];simp]
     simp only [qc8]
     exact Ev.okP1 (fun _=>hX)
 rw [qiL]
 refine Ev.bind hL ?_
 cases allN (fun j=>tabB pos (gt ts j)) ts.length<;>exact .done
end Go.Fw


namespace Go.Fw
open Go
set_option maxRecDepth 100000
theorem qdu {α:Type} [Inhabited α] {xs:List α} {x:Int} (h0:0≤x) (h1:x<xs.length):idx xs x=some (gt xs x.toNat):=by
  have:=qA (xs:=xs) (j:=x.toNat) (by omega)
  rwa [←qeH h0] at this
theorem qsM {q:Nat→Bool} {m n:Nat} (h:m≤n):cntP q m≤cntP q n:=by
  induction n with
  | zero =>
    obtain rfl:m=0:=by omega
    exact je _
  | succ n ih =>
    rcases Nat.lt_or_eq_of_le h with h|rfl
    · exact Nat.le_trans (ih (by omega)) (Nat.le_add_right _ _)
    · exact je _
theorem qnV {m k:Nat}:decide ((m:Int)≤(k:Int))=decide (m≤k):=by rw [jm];simp
theorem qtP {q:Nat→Bool} {n i j:Nat} (hi:i<j) (hj:j<n) (h1:q i=true) (h2:q j=true):2≤cntP q n:=by
  have e1:cntP q (i+1)=cntP q i+1:=by rw [cntP,h1];rfl
  have e2:cntP q (j+1)=cntP q j+1:=by rw [cntP,h2];rfl
  have m1:=qsM (q:=q) (show i+1≤j by omega)
  have m2:=qsM (q:=q) (show j+1≤n by omega)
  omega
theorem qt4 {q:Nat→Bool} {n i j:Nat} (hn:cntP q n≤1) (hi:i<n) (hj:j<n) (h1:q i=true) (h2:q j=true):i=j:=by
  rcases Nat.lt_trichotomy i j with h|h|h
  · have:=qtP h hj h1 h2;omega
  · exact h
  · have:=qtP h hi h2 h1;omega
def clkIx (ps:List qal):Int:=ixL (fun p=>p.Br) ps
def clkAt (ps:List qal) (x:Int):Bool:=(gt ps x.toNat).Br
theorem qxJ {c:qw} (hl:c.Bd.length≤1048576):Ev (fun n=>qh0 n c) (clkIx c.Bd):=by
  unfold qh0
  refine Ev.bind (b:=clkIx c.Bd) ?_ .done
  exact qfO (fin:=(c.Bd.length:Int)) (Lf:=qV c.Bd) (pf:=fun n x=>qip n x) (fun _ _=>.done)
    (fun n=>by simp only [qV,ql (je _),cond_false])
    (fun n j x hx=>by
      have hj:=(List.getElem?_eq_some_iff.1 hx).1
      simp only [qV,qj hj,cond_true,qan hx,jd,wS j])
    (fun n=>by unfold qbs;congr 1;funext o;cases o<;>rfl)
def arcI (ps:List qal) (a:qF):Bool :=
  bif (a.Be==4) || (a.Be==5) then
    (a.Bp==0)&&(((a.Bc.length:Int)==0)&&(tablesB a.Bn false&&((a.Bk==clkIx ps)&&(decide (a.Bk ≥ 0)&&(inI a.To 0 (ps.length-2)&&!(a.To==a.Bk))))))
  else
    (tablesB a.Bn true&&(tablesB a.Bc true&&((a.To==(ps.length:Int)-1)&&inI a.Bk 0 (ps.length-2)))) &&
      (bif a.Be==1 then !clkAt ps a.Bk&&inI a.Bp 1 3 else (bif (a.Be==2) || (a.Be==3) then clkAt ps a.Bk&&(a.Bp==0) else false))
def arcS (ps:List qal) (a:qF):Bool :=
  (inI a.Bk 0 (ps.length-2)&&inI a.To 0 (ps.length-1)) &&
    (bif a.Be==1 then !clkAt ps a.Bk&&((a.To==(ps.length:Int)-1)&&(inI a.Bp 1 3&&(tablesB a.Bn true&&tablesB a.Bc true)))
     else (bif (a.Be==2) || (a.Be==3) then clkAt ps a.Bk&&((a.To==(ps.length:Int)-1)&&((a.Bp==0)&&(tablesB a.Bn true&&tablesB a.Bc true)))
     else (bif (a.Be==4) || (a.Be==5) then clkAt ps a.Bk&&(decide (a.To<(ps.length:Int)-1)&&(!clkAt ps a.To&&((a.Bp==0)&&(tablesB a.Bn false&&((a.Bc.length:Int)==0))))) else false)))
theorem qp3 {c d:Bool}:(bif c then some c else some d)=some (c || d):=by cases c<;>rfl
theorem qun {c d:Bool}:(bif c then some true else some d)=some (c || d):=by cases c<;>rfl
theorem qvs {n:Nat} {k:Int}:qkt n k=some ((k==4) || (k==5)):=by simp only [qkt,qun]
theorem qx0 {c:qw} {a:qF} (h:okL qnF c.Bd) (ha:qog a) (hm:2≤c.Bd.length):Ev (fun n=>qhY n c a) (arcI c.Bd a):=by
  have hl:=h.len
  have e1:W64 ((c.Bd.length:Int)-1)=(c.Bd.length:Int)-1:=qfe (by omega)
  have e2:W64 ((c.Bd.length:Int)-1-1)=(c.Bd.length:Int)-2:=by rw [qN (by omega) (by omega)];omega
  simp only [qhY,qvs,jd,qgL,qeo,qcs,e1,e2,qdi,qp3,bne]
  unfold arcI
  refine Ev.iff (fun _=>Ev.last ?_) (fun _=>Ev.guardB ?_ (fun hb=>?_))
  · exact Ev.andP fun _=>Ev.andP fun _=>Ev.and (qmC ha.Bn) fun _=>Ev.bind (qxJ hl) (Ev.andP fun _=>Ev.andP fun _=>Ev.andP fun _=>.done)
  · refine Ev.or (qmC ha.Bn) fun _=>Ev.or (qmC ha.Bc) fun _=>?_
    simp only [qc8]
    exact Ev.orBP fun _=>.done
  · have hf:0≤a.Bk∧a.Bk≤(c.Bd.length:Int)-2:=by
      simp only [jf,qbd] at hb
      exact hb.2.2.2
    simp only [qdu hf.1 (show a.Bk<(c.Bd.length:Int) by omega),jd]
    exact Ev.iff (fun _=>Ev.andP fun _=>.done) (fun _=>Ev.iff (fun _=>Ev.andP fun _=>.done) (fun _=>.done))
theorem qv4 {c:qw} {a:qF} (h:okL qnF c.Bd) (ha:qog a) (hm:2≤c.Bd.length):Ev (fun n=>qlz n c a) (arcS c.Bd a):=by
  have hl:=h.len
  have e1:W64 ((c.Bd.length:Int)-1)=(c.Bd.length:Int)-1:=qfe (by omega)
  have e2:W64 ((c.Bd.length:Int)-1-1)=(c.Bd.length:Int)-2:=by rw [qN (by omega) (by omega)];omega
  simp only [qlz,jd,e1,e2,qcK,qp3]
  unfold arcS
  refine Ev.guardB ?_ (fun hb=>?_)
  · simp only [qc8]
    exact Ev.orBP fun _=>.done
  · have hf:(0≤a.Bk∧a.Bk≤(c.Bd.length:Int)-2)∧(0≤a.To∧a.To≤(c.Bd.length:Int)-1):=by
      simp only [jf,qbd] at hb
      exact hb
    simp only [qdu hf.1.1 (show a.Bk<(c.Bd.length:Int) by omega),qdu hf.2.1 (show a.To<(c.Bd.length:Int) by omega),jd]
    refine Ev.iff (fun _=>?_) (fun _=>Ev.iff (fun _=>?_) (fun _=>Ev.iff (fun _=>?_) (fun _=>.done)))
    · exact Ev.andP fun _=>Ev.andP fun _=>Ev.andP fun _=>Ev.and (qiB ha.Bn) fun _=>Ev.last (qiB ha.Bc)
    · exact Ev.andP fun _=>Ev.andP fun _=>Ev.andP fun _=>Ev.and (qiB ha.Bn) fun _=>Ev.last (qiB ha.Bc)
    · exact Ev.andP fun _=>Ev.andP fun _=>Ev.andP fun _=>Ev.andP fun _=>Ev.and (qiB ha.Bn) fun _=>.done
theorem qpX {ps:List qal} (h1:clkN ps ps.length≤1) {x:Int} (hx:0≤x):clkIx ps=x↔x<ps.length∧clkAt ps x=true:=by
  unfold clkIx ixL
  cases hf:ps.findIdx? (fun p=>p.Br) with
  | some j =>
    obtain ⟨hj,hp,_⟩:=List.findIdx?_eq_some_iff_getElem.1 hf
    have hpj:(gt ps j).Br=true:=by rw [qe3 hj];exact hp
    constructor
    · intro e
      have e:(j:Int)=x:=e
      subst e
      exact ⟨by omega,by unfold clkAt;rw [jn];exact hpj⟩
    · rintro ⟨hl,hc⟩
      have:=qt4 h1 hj (show x.toNat<ps.length by omega) hpj hc
      show (j:Int)=x
      omega
  | none =>
    have hn:=List.findIdx?_eq_none_iff.1 hf
    constructor
    · intro e
      have e:(-1:Int)=x:=e
      omega
    · rintro ⟨hl,hc⟩
      have hxl:x.toNat<ps.length:=by omega
      unfold clkAt at hc
      rw [qe3 hxl] at hc
      have:=hn _ (jp hxl)
      rw [hc] at this
      exact absurd this (by decide)
theorem qg5 {ps:List qal} (h:pinsB ps=true):(2≤ps.length∧ps.length≤5)∧clkAt ps ((ps.length:Int)-1)=false:=by
  unfold pinsB lenB at h
  simp only [jf,decide_eq_true_eq] at h
  refine ⟨h.2.1,?_⟩
  have h1:=qai.1 h.1 (ps.length-1) (by omega)
  unfold pinB at h1
  rw [show decide (ps.length-1+1=ps.length)=true by simp;omega] at h1
  simp only [cond_true,jf,jI] at h1
  unfold clkAt
  rw [show ((ps.length:Int)-1).toNat=ps.length-1 by omega]
  exact h1.2.2
theorem qx1 {ps:List qal} {a:qF} (h:pinsB ps=true) (h1:clkN ps ps.length≤1):arcI ps a=arcS ps a:=by
  obtain ⟨⟨hm,hm5⟩,hlast⟩:=qg5 h
  rw [jm]
  unfold arcI arcS
  cases h45:((a.Be==4) || (a.Be==5)) with
  | true =>
    have k1:(a.Be==1)=false:=by simp at h45 ⊢;omega
    have k23:((a.Be==2) || (a.Be==3))=false:=by simp at h45 ⊢;omega
    rw [k1,k23]
    simp only [cond_true,cond_false,jf,qbd,decide_eq_true_eq,beq_iff_eq,jI,beq_eq_false_iff_ne,ne_eq]
    constructor
    · rintro ⟨hs,hsl,hd,hf,hf0,ht,hne⟩
      obtain ⟨hl,hc⟩:=(qpX h1 hf0).1 hf.symm
      have hfl:a.Bk ≠ (ps.length:Int)-1:=by intro e;rw [e,hlast] at hc;cases hc
      refine ⟨⟨⟨hf0,by omega⟩,⟨ht.1,by omega⟩⟩,hc,by omega,?_,hs,hd,hsl⟩
      cases hct:clkAt ps a.To with
      | false=>rfl
      | true =>
        have:=(qpX h1 ht.1).2 ⟨by omega,hct⟩
        omega
    · rintro ⟨⟨hf,ht⟩,hc,hlt,hct,hs,hd,hsl⟩
      have:=(qpX h1 hf.1).2 ⟨by omega,hc⟩
      refine ⟨hs,hsl,hd,this.symm,hf.1,⟨ht.1,by omega⟩,?_⟩
      intro e
      rw [e,hc] at hct
      cases hct
  | false =>
    simp only [cond_false,jf,qbd,beq_iff_eq]
    cases (a.Be==1)
    · cases ((a.Be==2) || (a.Be==3))
      · simp
      · simp only [cond_true,cond_false,jf,beq_iff_eq]
        constructor
        · rintro ⟨⟨h1,h2,h3,h4⟩,h5,h6⟩
          exact ⟨⟨h4,by omega⟩,h5,h3,h6,h1,h2⟩
        · rintro ⟨⟨h4,h7⟩,h5,h3,h6,h1,h2⟩
          exact ⟨⟨h1,h2,h3,h4⟩,h5,h6⟩
    · simp only [cond_true,jf,qbd,jI,beq_iff_eq]
      constructor
      · rintro ⟨⟨h1,h2,h3,h4⟩,h5,h6⟩
        exact ⟨⟨h4,by omega⟩,h5,h3,h6,h1,h2⟩
      · rintro ⟨⟨h4,h7⟩,h5,h3,h6,h1,h2⟩
        exact ⟨⟨h1,h2,h3,h4⟩,h5,h6⟩
theorem qsK {ps:List qal} {a:qF} (h:arcS ps a=true):1≤a.Be∧a.Be≤5:=by
  unfold arcS at h
  rw [jf] at h
  have h:=h.2
  cases h1:(a.Be==1)
  · cases h2:((a.Be==2) || (a.Be==3))
    · cases h4:((a.Be==4) || (a.Be==5))
      · rw [h1,h2,h4] at h;cases h
      · simp at h4;omega
    · simp at h2;omega
  · simp at h1;omega
def sameArc (x y:qF):Bool:=(x.Be==y.Be)&&((x.Bk==y.Bk)&&(x.To==y.To))
def newArc (ar:List qF) (j:Nat):Bool:=allN (fun i=>!sameArc (gt ar i) (gt ar j)) j
theorem qvA {c:qw} (h:okL qnF c.Bd) (ha:okL qog c.Au) (hm:2≤c.Bd.length):Ev (fun n=>qgK n c) (allN (fun j=>arcI c.Bd (gt c.Au j)&&newArc c.Au j) c.Au.length&&decide (c.Au.length≤8)):=by
  have hl:=ha.len
  have h1:∀ (ar:List qF) (y:qF),ar.length≤1048576→Ev (fun n=>qaw n ar y) (ar.any fun x=>sameArc x y):=by
    intro ar y hl
    unfold qaw
    refine Ev.bind (b:=ixL (fun x=>sameArc x y) ar) (qfO (fin:=(ar.length:Int)) (Lf:=qQ ar y) (pf:=fun n x=>qfx n x y) (fun x _=>?_)
      (fun n=>by simp only [qQ,ql (je _),cond_false])
      (fun n j x hx=>by
        have hj:=(List.getElem?_eq_some_iff.1 hx).1
        simp only [qQ,qj hj,cond_true,qan hx,jd,wS j])
      (fun n=>by unfold qa9;congr 1;funext o;cases o<;>rfl)) (Ev.now (by rw [qm5]))
    unfold qfx sameArc
    exact Ev.andP fun _=>Ev.andP fun _=>.done
  have hL:Ev (fun n=>qcu c n 0) (bif allN (fun j=>arcI c.Bd (gt c.Au j)&&newArc c.Au j) c.Au.length then .nxt (c.Au.length:Int) else .ret false):=by
    refine qeK ?_ (fun j hj X hX=>Ev.succ ?_)
    · exact Ev.succ (by simp only [qcu,ql (je _),cond_false];exact .done)
    · simp only [qcu,qj hj,cond_true,qA hj,jd,qwi (Nat.le_of_lt hj),wS j]
      refine Ev.chk (qx0 h (qng ha hj) hm) fun _=>Ev.chkT1 ?_ (fun _=>hX)
      refine (h1 _ _ (by simp;omega)).cast ?_
      rw [qwZ (Nat.le_of_lt hj)];rfl
  unfold qgK
  refine Ev.bind hL ?_
  cases allN (fun j=>arcI c.Bd (gt c.Au j)&&newArc c.Au j) c.Au.length
  · exact .done
  · refine Ev.now ?_
    show some (decide ((c.Au.length:Int)≤((8:Nat):Int)))=some (true&&decide (c.Au.length≤8))
    rw [qnV,jA]
def hasB (ar:List qF) (k:Int):Bool:=ar.any fun a=>a.Be==k
theorem qpt {c:qw} {k:Int} (hl:c.Au.length≤1048576):Ev (fun n=>qdq n c k) (hasB c.Au k):=by
  unfold qdq qbj
  exact Ev.last (Ev.bind (b:=ixL (fun x=>x.Be==k) c.Au) (qfO (fin:=(c.Au.length:Int)) (Lf:=qaa c.Au k) (pf:=fun n x=>qj5 n x k) (fun x _=>.done)
      (fun n=>by simp only [qaa,ql (je _),cond_false])
      (fun n j x hx=>by
        have hj:=(List.getElem?_eq_some_iff.1 hx).1
        simp only [qaa,qj hj,cond_true,qan hx,jd,wS j])
      (fun n=>by unfold qbx;congr 1;funext o;cases o<;>rfl)) (Ev.now (by rw [qm5];rfl)))
def kindN (ar:List qF) (k:Nat) (j:Nat):Nat:=cntP (fun i=>(gt ar i).Be==(k:Int)) j
theorem qsw {ar:List qF} {k:Nat}:decide (((kindN ar k ar.length:Nat):Int) > 0)=hasB ar k:=by
  rw [show decide (((kindN ar k ar.length:Nat):Int) > 0)=decide (0<kindN ar k ar.length) by simp]
  unfold kindN hasB
  rw [qtS,qu7]
theorem qvt {ar:List qF} {k:Nat}:(((kindN ar k ar.length:Nat):Int)==0) = !hasB ar k:=by
  rw [←qsw,jm];simp
theorem quu {c:qw} (ha:okL qog c.Au) (hk:∀ j,j<c.Au.length→1≤(gt c.Au j).Be∧(gt c.Au j).Be≤5):Ev (fun n=>qjC n c) (vecC (fun k=>kindN c.Au k c.Au.length) 6):=by
  have hl:=ha.len
  have hL:Ev (fun n=>qdj c n (vecC (fun _=>0) 6) 0) (vecC (fun k=>kindN c.Au k c.Au.length) 6,(c.Au.length:Int)):=by
    refine loopF (Lf:=qdj c) (S:=fun j=>vecC (fun k=>kindN c.Au k j) 6) (len:=c.Au.length) (fun n=>?_) (fun j hj X hX=>?_)
    · simp only [qdj,ql (je _),cond_false]
    · obtain ⟨k1,k5⟩:=hk j hj
      have ek:(gt c.Au j).Be=(((gt c.Au j).Be.toNat:Nat):Int):=qeH (by omega)
      have hc:kindN c.Au (gt c.Au j).Be.toNat j≤j:=qge
      simp only [qdj,qj hj,cond_true,qA hj,jd,wS j]
      rw [ek,qk5 (show (gt c.Au j).Be.toNat<6 by omega)]
      simp only [jd]
      rw [qsP (c:=fun k=>kindN c.Au k j) (by show kindN c.Au _ j<_;omega)]
      have:vecC (fun i=>kindN c.Au i j+(bif decide ((gt c.Au j).Be.toNat=i) then 1 else 0)) 6=vecC (fun k=>kindN c.Au k (j+1)) 6:=by
        refine qkE (fun k _=>?_)
        show _=kindN c.Au k j+(bif (gt c.Au j).Be==(k:Int) then 1 else 0)
        congr 2
        rw [jm];simp;omega
      rw [this]
      exact hX
  unfold qjC
  rw [show mkS 6 (0:Int)=some (vecC (fun _=>0) 6) from qnN (m:=6) (by omega)]
  simp only [jd]
  exact Ev.bind hL .done
def kindB (c:qw):Bool :=
  bif c.Be==1 then (((clkN c.Bd c.Bd.length:Nat):Int)==0)&&(((c.Bo.length:Int)==((2 ^ (c.Bd.length-1):Nat):Int))&&(c.Bo.all fun x=>inI x 0 1))
  else bif c.Be==2 then (((clkN c.Bd c.Bd.length:Nat):Int)==1)&&(((c.Bo.length:Int)==0)&&(!hasB c.Au 1&&!(hasB c.Au 2==hasB c.Au 3)))
  else bif c.Be==3 then (((clkN c.Bd c.Bd.length:Nat):Int)==1)&&(((c.Bo.length:Int)==0)&&(hasB c.Au 1&&(hasB c.Au 2&&!hasB c.Au 3)))
  else false
theorem qsC {c:qw} (h:kindB c=true):clkN c.Bd c.Bd.length≤1:=by
  unfold kindB at h
  cases h1:(c.Be==1)
  · cases h2:(c.Be==2)
    · cases h3:(c.Be==3)
      · rw [h1,h2,h3] at h;cases h
      · rw [h1,h2,h3] at h
        simp only [cond_true,cond_false,jf,beq_iff_eq] at h
        omega
    · rw [h1,h2] at h
      simp only [cond_true,cond_false,jf,beq_iff_eq] at h
      omega
  · rw [h1] at h
    simp only [cond_true,jf,beq_iff_eq] at h
    omega
theorem qtU {m:Nat} (h1:2≤m) (h2:m≤5):shlS 1 (W64 ((m:Int)-1))=some ((2 ^ (m-1):Nat):Int)∧shlS 1 (IntKind.wrap .u64 (W64 ((m:Int)-1)))=some ((2 ^ (m-1):Nat):Int):=by
  have:m=2∨m=3∨m=4∨m=5:=by omega
  rcases this with rfl|rfl|rfl|rfl<;>exact ⟨by decide,by decide⟩
theorem quz {c:qw} (hc:qnM c) (hm:2≤c.Bd.length) (hm5:c.Bd.length≤5):Ev (fun n=>qgb n c) (kindB c):=by
  have hl:=hc.Bd.len
  have hL:Ev (fun n=>qbb c n 0 0) (((clkN c.Bd c.Bd.length:Nat):Int),(c.Bd.length:Int)):=by
    refine loopF (Lf:=qbb c) (S:=fun j=>((clkN c.Bd j:Nat):Int)) (len:=c.Bd.length) (fun n=>?_) (fun j hj X hX=>?_)
    · simp only [qbb,ql (je _),cond_false]
    · have hn:clkN c.Bd j≤j:=qge
      simp only [qbb,qj hj,cond_true,qA hj,jd,wS j,qc7 (show clkN c.Bd j<9223372036854775807 by omega)]
      have hck:clkN c.Bd (j+1)=clkN c.Bd j+(bif (gt c.Bd j).Br then 1 else 0):=rfl
      rw [hck] at hX
      cases hc:(gt c.Bd j).Br
      · rw [hc] at hX;exact Ev.ff rfl hX
      · rw [hc] at hX;exact Ev.tt rfl hX
  unfold qgb kindB
  refine Ev.bind hL ?_
  simp only [qeo,qcs,jd,(qtU hm hm5).1]
  have hal:=hc.Au.len
  refine Ev.iff (fun _=>?_) (fun _=>Ev.iff (fun _=>?_) (fun _=>Ev.iff (fun _=>?_) (fun _=>.done)))
  · exact Ev.andP fun _=>Ev.andP fun _=>Ev.last (qfb hc.Bo.len)
  · exact Ev.andP fun _=>Ev.andP fun _=>Ev.bind (qpt hal) (Ev.andP fun _=>Ev.bind (qpt hal) (Ev.bind (qpt hal) .done))
  · exact Ev.andP fun _=>Ev.andP fun _=>Ev.and (qpt hal) fun _=>Ev.and (qpt hal) fun _=>Ev.bind (qpt hal) .done
def cellB (c:qw):Bool :=
  nameB c.Bb&&(pinsB c.Bd&&((allN (fun j=>arcI c.Bd (gt c.Au j)&&newArc c.Au j) c.Au.length&&decide (c.Au.length≤8))&&(inI c.Ca 0 100000&&(inI c.Bu 0 100000&&kindB c))))
theorem qwE {c:qw} (hc:qnM c):Ev (fun n=>qlk n c) (cellB c):=by
  simp only [qlk,qpq hc.Bb,qdi,jd]
  unfold cellB
  refine Ev.andP fun _=>Ev.and (qu4 hc.Bd) fun hp=>?_
  obtain ⟨⟨hm,hm5⟩,_⟩:=qg5 hp
  exact Ev.and (qvA hc.Bd hc.Au hm) fun _=>Ev.andP fun _=>Ev.andP fun _=>Ev.last (quz hc hm hm5)
theorem quQ {c:qw} (hc:qnM c):Ev (fun n=>qlA n c) (cellB c):=by
  have hal:=hc.Au.len
  have htl:=hc.Bo.len
  have e:cellB c=((pinsB c.Bd&&(nameB c.Bb&&(decide (c.Au.length≤8)&&(inI c.Ca 0 100000&&inI c.Bu 0 100000))))&&(allN (fun j=>arcS c.Bd (gt c.Au j)&&newArc c.Au j) c.Au.length&&kindB c)):=by
    unfold cellB
    cases hk:kindB c
    · simp
    · cases hp:pinsB c.Bd
      · simp
      · rw [qid (fun j _=>by rw [qx1 hp (qsC hk)])]
        cases nameB c.Bb<;>cases allN (fun j=>arcS c.Bd (gt c.Au j)&&newArc c.Au j) c.Au.length<;>cases decide (c.Au.length≤8)<;>cases inI c.Ca 0 100000<;>cases inI c.Bu 0 100000<;>rfl
  rw [e]
  unfold qlA
  refine Ev.bind (qvj hc.Bd) ?_
  cases hp:pinsB c.Bd
  · exact .done
  · obtain ⟨⟨hm,hm5⟩,_⟩:=qg5 hp
    simp only [cond_true,jA,Jc,cond_false]
    refine Ev.guardB ?_ (fun _=>?_)
    · simp only [qcK,jd,qc8]
      refine Ev.orB (qmL hc.Bb) fun _=>?_
      rw [show decide ((c.Au.length:Int) > 8) = !decide (c.Au.length≤8) by rw [jm];simp;omega,qc8]
      exact Ev.orBP fun _=>Ev.orBP fun _=>.done
    · have hL2:∀ j,j<c.Au.length→Ev (fun n=>qds c (j:Int) (gt c.Au j) n 0) (bif newArc c.Au j then .nxt (j:Int) else .ret false):=by
        intro j hj
        refine qeK ?_ (fun i hi X hX=>Ev.succ ?_)
        · exact Ev.succ (by simp only [qds,ql (je _),cond_false];exact .done)
        · simp only [qds,qj hi,cond_true,qA (show i<c.Au.length by omega),jd,wS i]
          unfold sameArc
          cases ((gt c.Au i).Be==(gt c.Au j).Be)
          · exact hX
          · cases ((gt c.Au i).Bk==(gt c.Au j).Bk)
            · exact hX
            · cases ((gt c.Au i).To==(gt c.Au j).To)
              · exact hX
              · exact .done
      have hL1:Ev (fun n=>qfT c n 0) (bif allN (fun j=>arcS c.Bd (gt c.Au j)&&newArc c.Au j) c.Au.length then .nxt (c.Au.length:Int) else .ret false):=by
        refine qeK ?_ (fun j hj X hX=>Ev.succ ?_)
        · exact Ev.succ (by simp only [qfT,ql (je _),cond_false];exact .done)
        · simp only [qfT,qj hj,cond_true,qA hj,jd,wS j]
          refine Ev.chk (qv4 hc.Bd (qng hc.Au hj) hm) fun _=>Ev.bind (hL2 j hj) ?_
          cases newArc c.Au j
          · exact .done
          · exact hX
      have hL3:Ev (fun n=>qfQ c n 0) (bif (c.Bo.all fun x=>inI x 0 1) then .nxt (c.Bo.length:Int) else .ret false) :=
        qoF (fun n=>by simp only [qfQ,ql (je _),cond_false]) (fun j hj X hX=>by
          simp only [qfQ,qj hj,cond_true,qgS hj,jd,qcK,wS j,qc8]
          exact Ev.okP1 fun _=>hX)
      refine Ev.bind hL1 ?_
      cases hA:allN (fun j=>arcS c.Bd (gt c.Au j)&&newArc c.Au j) c.Au.length
      · exact .done
      · have hk:∀ j,j<c.Au.length→1≤(gt c.Au j).Be∧(gt c.Au j).Be≤5:=fun j hj=>by
          have:=qai.1 hA j hj
          rw [jf] at this
          exact qsK this.1
        simp only [cond_true,jA]
        refine Ev.bind (quu hc.Au hk) ?_
        simp only [(qtU hm hm5).2,jd,
          show idx (vecC (fun k=>kindN c.Au k c.Au.length) 6) (1:Int)=some ((kindN c.Au 1 c.Au.length:Nat):Int) from qk5 (k:=1) (by omega),
          show idx (vecC (fun k=>kindN c.Au k c.Au.length) 6) (2:Int)=some ((kindN c.Au 2 c.Au.length:Nat):Int) from qk5 (k:=2) (by omega),
          show idx (vecC (fun k=>kindN c.Au k c.Au.length) 6) (3:Int)=some ((kindN c.Au 3 c.Au.length:Nat):Int) from qk5 (k:=3) (by omega),qsw,qvt]
        unfold kindB
        refine Ev.iff (fun _=>?_) (fun _=>Ev.iff (fun _=>?_) (fun _=>Ev.iff (fun _=>?_) (fun _=>.done)))
        · refine Ev.bind hL3 ?_
          cases (c.Bo.all fun x=>inI x 0 1)
          · exact Ev.now (by simp)
          · exact (Ev.andP (fun _=>.done)).cast (by rw [Bool.and_true])
        · refine (Ev.andP fun _=>Ev.andP fun _=>Ev.andP fun _=>.done).cast ?_
          cases (((clkN c.Bd c.Bd.length:Nat):Int)==1)<;>cases ((c.Bo.length:Int)==0)<;>cases hasB c.Au ((1:Nat):Int)<;>cases hasB c.Au ((2:Nat):Int)<;>cases hasB c.Au ((3:Nat):Int)<;>rfl
        · refine (Ev.andP fun _=>Ev.andP fun _=>Ev.andP fun _=>Ev.andP fun _=>.done).cast ?_
          cases (((clkN c.Bd c.Bd.length:Nat):Int)==1)<;>cases ((c.Bo.length:Int)==0)<;>cases hasB c.Au ((1:Nat):Int)<;>cases hasB c.Au ((2:Nat):Int)<;>cases hasB c.Au ((3:Nat):Int)<;>rfl
def libB (l:qn):Bool:=l.Ar.all cellB&&(decide (l.Ar.length≤8)&&namesB (l.Ar.map qw.Bb))
theorem qtw {l:qn} (h:qh7 l):Ev (fun n=>qi3 n l) (libB l):=by
  have hl:=h.Ar.len
  have hL:Ev (fun n=>qcE l n ([]:List ByteArray) 0) (bif allN (fun j=>cellB (gt l.Ar j)) l.Ar.length then .nxt (l.Ar.map qw.Bb,(l.Ar.length:Int)) else .ret false):=by
    refine loopN (Lf:=qcE l) (S:=fun j=>(l.Ar.take j).map qw.Bb) (fun j=>cellB (gt l.Ar j)) (fun n=>?_) (fun j hj hp X hX=>?_)
    · simp only [qcE,ql (je _),cond_false,jD]
    · simp only [qcE,qj hj,cond_true,qA hj,jd,qlY hj hl,qf5 (g:=qw.Bb) hj,wS j]
      exact Ev.chk1 (qwE (qng h.Ar hj)) hX
  unfold qi3 libB
  rw [qiL]
  refine Ev.bind hL ?_
  cases allN (fun j=>cellB (gt l.Ar j)) l.Ar.length
  · exact .done
  · simp only [cond_true,jA,show decide ((l.Ar.length:Int)≤8)=decide (l.Ar.length≤8) from qnV (k:=8)]
    exact Ev.andP fun _=>Ev.last (qjI (qnO h.Ar (fun x hx=>hx.Bb)))
end Go.Fw


namespace Go.Fw
open Go
set_option maxRecDepth 100000
theorem qvm {c:qw} (h:cellB c=true):nameB c.Bb=true:=by
 unfold cellB at h;rw [jf] at h;exact h.1
theorem qi7 {c:qw} (h:cellB c=true):pinsB c.Bd=true:=by
 unfold cellB at h;simp only [jf] at h;exact h.2.1
theorem qrN {l:qn} (h:qh7 l):Ev (fun n=>qis n l) (libB l):=by
 have hl:=h.Ar.len
 have hL2:∀ j,j<l.Ar.length→Ev (fun n=>qdF l (j:Int) n 0) (bif allN (neB (l.Ar.map qw.Bb) j) j then .nxt (j:Int) else .ret false):=by
  intro j hj
  refine qeK ?_ (fun i hi X hX=>Ev.succ ?_)
  ·exact Ev.succ (by simp only [qdF,ql (je _),cond_false];exact .done)
  ·simp only [qdF,qj hi,cond_true,qA (show i<l.Ar.length by omega),qA hj,jd,qhE,wS i]
   unfold neB
   rw [qkz (g:=qw.Bb) (show i<l.Ar.length by omega),qkz (g:=qw.Bb) hj]
   exact Ev.chkP1 (fun _=>hX)
 have hL1:Ev (fun n=>qdI l n 0) (bif allN (fun j=>cellB (gt l.Ar j)&&allN (neB (l.Ar.map qw.Bb) j) j) l.Ar.length then .nxt (l.Ar.length:Int) else .ret false):=by
  refine qeK ?_ (fun j hj X hX=>Ev.succ ?_)
  ·exact Ev.succ (by simp only [qdI,ql (je _),cond_false];exact .done)
  ·simp only [qdI,qj hj,cond_true,qA hj,jd,wS j]
   refine Ev.chk (quQ (qng h.Ar hj)) fun _=>Ev.bind (hL2 j hj) ?_
   cases allN (neB (l.Ar.map qw.Bb) j) j
   ·exact .done
   ·exact hX
 have e:libB l=(allN (fun j=>cellB (gt l.Ar j)&&allN (neB (l.Ar.map qw.Bb) j) j) l.Ar.length&&decide (l.Ar.length≤8)):=by
  unfold libB namesB
  rw [qiL,jz,Bool.and_comm (decide (l.Ar.length≤8)),←Bool.and_assoc,←qlR]
  congr 1
  refine qid (fun j hj=>?_)
  rw [qkz (g:=qw.Bb) hj]
  cases hc:cellB (gt l.Ar j)
  ·rfl
  ·rw [qvm hc];rfl
 rw [e]
 unfold qis
 refine Ev.bind hL1 ?_
 cases allN (fun j=>cellB (gt l.Ar j)&&allN (neB (l.Ar.map qw.Bb) j) j) l.Ar.length
 ·exact .done
 ·refine Ev.now ?_
  show some (decide ((l.Ar.length:Int)≤((8:Nat):Int)))=some (true&&decide (l.Ar.length≤8))
  rw [qnV,jA]
theorem qmd {c c':Nat→Nat} {m:Nat} {x:Int} (h0:0≤x) (h1:x<m) (hc:c x.toNat<9223372036854775807) (he:∀ k,k<m→c' k=c k+(bif x==(k:Int) then 1 else 0)) :
  idx (vecC c m) x=some (c x.toNat:Int)∧setS (vecC c m) x (W64 ((c x.toNat:Int)+1))=vecC c' m:=by
 have ex:x=(x.toNat:Int):=qeH h0
 have e1:=qk5 (c:=c) (m:=m) (k:=x.toNat) (by omega)
 have e2:=qsP (c:=c) (m:=m) (k:=x.toNat) hc
 rw [←ex] at e1 e2
 refine ⟨e1,e2.trans (qkE (fun k hk=>?_))⟩
 rw [he k hk]
 congr 2
 rw [jm];simp;omega
def netB (d:qd) (x:Int):Bool:=inI x 0 ((d.Ak.length:Int)-1)
theorem quv {n:Nat} {d:qd} {x:Int} (hl:d.Ak.length≤1048576):qdL n d x=some (netB d x):=by
 simp only [qdL,qh5,jd,qdi,qfe (show d.Ak.length≤9223372036854775807 by omega)];rfl
theorem qsE {n:Nat} {d:qd} {x:Int} (hl:d.Ak.length≤1048576):qav n x 0 (W64 ((d.Ak.length:Int)-1))=some (netB d x):=by
 rw [qcK,qfe (show d.Ak.length≤9223372036854775807 by omega)];rfl
def hasNamesB (d:qd):Bool:=(decide (d.Aa.length≤14)&&(decide (d.Ak.length≤30)&&decide (d.Aj.length≤8)))&&(namesB (d.Aa.map qi.Bb)&&(namesB d.Ak&&namesB (d.Aj.map qL.Bb)))
theorem qt5 {d:qd} (h:qkD d):Ev (fun n=>qe1 n d) (hasNamesB d):=by
 have hli:=h.Aa.len
 have hlp:=h.Aj.len
 have hL1:Ev (fun n=>qbp d n ([]:List ByteArray) 0) (d.Aa.map qi.Bb,(d.Aa.length:Int)):=by
  refine loopF (Lf:=qbp d) (S:=fun j=>(d.Aa.take j).map qi.Bb) (len:=d.Aa.length) (fun n=>?_) (fun j hj X hX=>?_)
  ·simp only [qbp,ql (je _),cond_false,jD]
  ·simpa only [qbp,qj hj,cond_true,qA hj,jd,qlY hj hli,qf5 (g:=qi.Bb) hj,wS j] using hX
 have hL2:Ev (fun n=>qbl d n ([]:List ByteArray) 0) (d.Aj.map qL.Bb,(d.Aj.length:Int)):=by
  refine loopF (Lf:=qbl d) (S:=fun j=>(d.Aj.take j).map qL.Bb) (len:=d.Aj.length) (fun n=>?_) (fun j hj X hX=>?_)
  ·simp only [qbl,ql (je _),cond_false,jD]
  ·simpa only [qbl,qj hj,cond_true,qA hj,jd,qlY hj hlp,qf5 (g:=qL.Bb) hj,wS j] using hX
 unfold qe1 hasNamesB
 refine Ev.bind hL1 (Ev.bind hL2 ?_)
 simp only [jz]
 rw [show decide ((d.Aa.length:Int)≤14)=decide (d.Aa.length≤14) from qnV (k:=14),show decide ((d.Ak.length:Int)≤30)=decide (d.Ak.length≤30) from qnV (k:=30),show decide ((d.Aj.length:Int)≤8)=decide (d.Aj.length≤8) from qnV (k:=8)]
 rw [Bool.and_assoc,Bool.and_assoc]
 exact Ev.andP fun _=>Ev.andP fun _=>Ev.andP fun _=>Ev.and (qjI (qnO h.Aa (fun x hx=>hx.Bb))) fun _=>Ev.and (qjI h.Ak) fun _=>Ev.last (qjI (qnO h.Aj (fun x hx=>hx.Bb)))
def instB (l:qn) (d:qd) (x:qi):Bool:=inI x.Bt 0 ((l.Ar.length:Int)-1)&&(((x.Ak.length:Int)==((gt l.Ar x.Bt.toNat).Bd.length:Int))&&x.Ak.all (netB d))
theorem qrT {d:qd} {l:qn} {x:qi} (hn:d.Ak.length≤1048576) (hc:l.Ar.length≤1048576) (hx:x.Ak.length≤1048576):Ev (fun n=>qd9 n d l x) (instB l d x):=by
 simp only [qd9,qgF,jd,qdi,qfe (show l.Ar.length≤9223372036854775807 by omega)]
 unfold instB
 refine Ev.andP fun hI=>?_
 rw [qbd] at hI
 rw [qdu hI.1 (by omega)]
 simp only [jd]
 refine Ev.andP fun _=>Ev.bind (b:=x.Ak.any fun y=>!netB d y) ?_ (Ev.now (by rw [qoS]))
 unfold qaU
 exact Ev.bind (b:=ixL (fun y=>!netB d y) x.Ak) (qfO (fin:=(x.Ak.length:Int)) (Lf:=qM x.Ak d) (pf:=fun n y=>qdo n y d) (fun y _=>⟨0,fun n _=>by simp only [qdo,quv hn,jd]⟩)
   (fun n=>by simp only [qM,ql (je _),cond_false])
   (fun n j y hx=>by
    have hj:=(List.getElem?_eq_some_iff.1 hx).1
    simp only [qM,qj hj,cond_true,qan hx,jd,wS j])
   (fun n=>by unfold qa5;congr 1;funext o;cases o<;>rfl)) (Ev.now (by rw [qm5]))
def portB (d:qd) (p:qL):Bool:=inI p.Bv 1 2&&netB d p.Bx
theorem qzw {x:Int}:inI x 1 2=((x==1) || (x==2)):=by
 unfold inI;rw [jm];simp;omega
def lastN (x:qi):Int:=at0 x.Ak (x.Ak.length-1)
theorem quG {x:qi} (h1:1≤x.Ak.length) (h2:x.Ak.length≤1048576):idx x.Ak (W64 ((x.Ak.length:Int)-1))=some (lastN x):=by
 rw [qfe (by omega),show ((x.Ak.length:Int)-1)=((x.Ak.length-1:Nat):Int) by omega,qak (by omega)];rfl
theorem qvZ {d:qd} {x:qi} (h1:1≤x.Ak.length) (h:x.Ak.all (netB d)=true):0≤lastN x∧lastN x<d.Ak.length:=by
 rw [qg4 (d:=0),qai] at h
 have:=h (x.Ak.length-1) (by omega)
 unfold netB at this
 rw [qbd] at this
 unfold lastN at0
 omega
theorem qq3 {l:qn} {d:qd} {x:qi} (hl:libB l=true) (h:instB l d x=true):1≤x.Ak.length∧0≤lastN x∧lastN x<d.Ak.length:=by
 unfold instB at h
 simp only [jf,qbd,beq_iff_eq] at h
 obtain ⟨h1,h2,h3⟩:=h
 unfold libB at hl
 simp only [jf] at hl
 have hc:=hl.1
 rw [qiL,qai] at hc
 have:=qg5 (qi7 (hc x.Bt.toNat (by omega)))
 have h4:1≤x.Ak.length:=by omega
 exact ⟨h4,qvZ h4 h3⟩
def drvI (d:qd) (k j:Nat):Nat:=cntP (fun i=>lastN (gt d.Aa i)==(k:Int)) j
def drvP (d:qd) (k j:Nat):Nat:=cntP (fun i=>((gt d.Aj i).Bv==1)&&((gt d.Aj i).Bx==(k:Int))) j
def drvB (d:qd):Bool:=allN (fun k=>((drvI d k d.Aa.length+drvP d k d.Aj.length:Nat):Int)==1) d.Ak.length
def designB (l:qn) (d:qd):Bool:=(libB l&&hasNamesB d)&&(d.Aa.all (instB l d)&&(d.Aj.all (portB d)&&drvB d))
theorem qpo {d:qd} {k j:Nat}:drvI d k (j+1)=drvI d k j+(bif lastN (gt d.Aa j)==(k:Int) then 1 else 0):=rfl
theorem qnH {d:qd} {k j:Nat}:drvP d k (j+1)=drvP d k j+(bif ((gt d.Aj j).Bv==1)&&((gt d.Aj j).Bx==(k:Int)) then 1 else 0):=rfl
theorem qt1 {l:qn} {d:qd} (h:qh7 l) (hd:qkD d):Ev (fun n=>qjx n l d) (designB l d):=by
 have hli:=hd.Aa.len
 have hlp:=hd.Aj.len
 have hln:=hd.Ak.len
 have hlc:=h.Ar.len
 unfold qjx designB
 refine Ev.guardB (Ev.or (qtw h) fun _=>Ev.neg (qt5 hd)) fun hb=>?_
 rw [jf] at hb
 rw [qnN (m:=d.Ak.length) (by omega)]
 simp only [jd]
 have hL1:Ev (fun n=>qdc l d n (vecC (fun _=>0) d.Ak.length) 0) (bif allN (fun j=>instB l d (gt d.Aa j)) d.Aa.length then .nxt (vecC (fun k=>drvI d k d.Aa.length) d.Ak.length,(d.Aa.length:Int)) else .ret false):=by
  refine loopN (Lf:=qdc l d) (S:=fun j=>vecC (fun k=>drvI d k j) d.Ak.length) (fun j=>instB l d (gt d.Aa j)) (fun n=>?_) (fun j hj hp X hX=>?_)
  ·simp only [qdc,ql (je _),cond_false]
  ·simp only [qdc,qj hj,cond_true,qA hj,jd,wS j]
   have hxl:=(qng hd.Aa hj).Ak.len
   refine Ev.chk1 (qrT hln hlc hxl) fun hi=>?_
   obtain ⟨h1,h2,h3⟩:=qq3 hb.1 hi
   have hc:drvI d (lastN (gt d.Aa j)).toNat j≤j:=qge
   obtain ⟨e1,e2⟩:=qmd (c:=fun k=>drvI d k j) (c':=fun k=>drvI d k (j+1)) h2 h3 (by show drvI _ _ _<_;omega) (fun k _=>qpo)
   simp only [quG h1 hxl,jd,e1,e2]
   exact hX hi
 have hL2:Ev (fun n=>qcx d n (vecC (fun k=>drvI d k d.Aa.length) d.Ak.length) 0) (bif allN (fun j=>portB d (gt d.Aj j)) d.Aj.length then .nxt (vecC (fun k=>drvI d k d.Aa.length+drvP d k d.Aj.length) d.Ak.length,(d.Aj.length:Int)) else .ret false):=by
  refine loopN (Lf:=qcx d) (S:=fun j=>vecC (fun k=>drvI d k d.Aa.length+drvP d k j) d.Ak.length) (fun j=>portB d (gt d.Aj j)) (fun n=>?_) (fun j hj hp X hX=>?_)
  ·simp only [qcx,ql (je _),cond_false]
  ·simp only [qcx,qj hj,cond_true,qA hj,jd,quv hln,bne,wS j]
   refine Ev.chkT1 ?_ fun hi=>?_
   ·unfold portB
    rw [qzw]
    cases ((gt d.Aj j).Bv==1)<;>cases ((gt d.Aj j).Bv==2)<;>exact .done
   ·have hX:=hX hi
    unfold portB netB at hi
    simp only [jf,qbd] at hi
    have hc1:drvI d (gt d.Aj j).Bx.toNat d.Aa.length≤d.Aa.length:=qge
    have hc2:drvP d (gt d.Aj j).Bx.toNat j≤j:=qge
    cases h1:((gt d.Aj j).Bv==1)
    ·have:vecC (fun k=>drvI d k d.Aa.length+drvP d k (j+1)) d.Ak.length=vecC (fun k=>drvI d k d.Aa.length+drvP d k j) d.Ak.length:=by
      refine qkE (fun k _=>?_)
      rw [qnH,h1];rfl
     rw [this] at hX
     exact hX
    ·obtain ⟨e1,e2⟩:=qmd (c:=fun k=>drvI d k d.Aa.length+drvP d k j) (c':=fun k=>drvI d k d.Aa.length+drvP d k (j+1)) (x:=(gt d.Aj j).Bx) (m:=d.Ak.length) hi.2.1 (by omega) (by show drvI _ _ _+drvP _ _ _<_;omega) (fun k _=>by rw [qnH,h1,jA];omega)
     simp only [cond_true,jd,e1,e2]
     exact hX
 rw [qiL,qiL]
 refine Ev.bind hL1 ?_
 cases allN (fun j=>instB l d (gt d.Aa j)) d.Aa.length
 ·exact .done
 ·refine Ev.bind hL2 ?_
  cases allN (fun j=>portB d (gt d.Aj j)) d.Aj.length
  ·exact .done
  ·simp only [cond_true,jA]
   unfold qbJ
   refine Ev.bind (b:=(vecC (fun k=>drvI d k d.Aa.length+drvP d k d.Aj.length) d.Ak.length).any fun x=>!(x==1)) (Ev.bind (b:=ixL (fun x=>!(x==1)) (vecC (fun k=>drvI d k d.Aa.length+drvP d k d.Aj.length) d.Ak.length)) (qfO (fin:=(((vecC (fun k=>drvI d k d.Aa.length+drvP d k d.Aj.length) d.Ak.length).length:Nat):Int)) (Lf:=qao (vecC (fun k=>drvI d k d.Aa.length+drvP d k d.Aj.length) d.Ak.length)) (pf:=fun n y=>qj7 n y) (fun y _=>.done)
    (fun n=>by simp only [qao,ql (je _),cond_false])
    (fun n j y hx=>by
     have hj:=(List.getElem?_eq_some_iff.1 hx).1
     have:j<d.Ak.length:=by rw [qnE] at hj;exact hj
     simp only [qao,qj hj,cond_true,qan hx,jd,wS j])
    (fun n=>by unfold qb3;congr 1;funext o;cases o<;>rfl)) (Ev.now (by rw [qm5]))) (Ev.now ?_)
   rw [qoS,qg4 (d:=0),qnE]
   unfold drvB
   congr 1
   exact qid (fun k hk=>by
    have:=quH (c:=fun k=>drvI d k d.Aa.length+drvP d k d.Aj.length) hk
    unfold at0 at this
    rw [this])
theorem quB {l:qn} {d:qd} (h:qh7 l) (hd:qkD d):Ev (fun n=>qjr n l d) (d.Aa.all (instB l d)&&d.Aj.all (portB d)):=by
 have hli:=hd.Aa.len
 have hlp:=hd.Aj.len
 have hln:=hd.Ak.len
 have hlc:=h.Ar.len
 have hL2:∀ x:qi,x.Ak.length≤1048576→Ev (fun n=>qeg d x n 0) (bif x.Ak.all (netB d) then .nxt (x.Ak.length:Int) else .ret false):=fun x hx =>
  qoF (fun n=>by simp only [qeg,ql (je _),cond_false]) (fun j hj X hX=>by
   simp only [qeg,qj hj,cond_true,qgS hj,jd,qsE hln,wS j,qc8]
   exact Ev.okP1 fun _=>hX)
 have hL1:Ev (fun n=>qew l d n 0) (bif allN (fun j=>instB l d (gt d.Aa j)) d.Aa.length then .nxt (d.Aa.length:Int) else .ret false):=by
  refine qeK ?_ (fun j hj X hX=>Ev.succ ?_)
  ·exact Ev.succ (by simp only [qew,ql (je _),cond_false];exact .done)
  ·simp only [qew,qj hj,cond_true,qA hj,jd,qcK,qfe (show l.Ar.length≤9223372036854775807 by omega),wS j,bne]
   have hxl:=(qng hd.Aa hj).Ak.len
   unfold instB
   rw [←Bool.and_assoc]
   refine Ev.chkT ?_ fun _=>Ev.bind (hL2 _ hxl) ?_
   ·simp only [qc8]
    refine Ev.orBP fun hI=>?_
    rw [qbd] at hI
    rw [qdu hI.1 (by omega)]
    exact .done
   ·cases (gt d.Aa j).Ak.all (netB d)
    ·exact .done
    ·exact hX
 have hL3:Ev (fun n=>qek d n 0) (bif allN (fun j=>portB d (gt d.Aj j)) d.Aj.length then .nxt (d.Aj.length:Int) else .ret false):=by
  refine qeK ?_ (fun j hj X hX=>Ev.succ ?_)
  ·exact Ev.succ (by simp only [qek,ql (je _),cond_false];exact .done)
  ·simp only [qek,qj hj,cond_true,qA hj,jd,qsE hln,wS j]
   simp only [qcK,jd,qc8]
   unfold portB
   exact Ev.okP fun _=>Ev.okP1 fun _=>hX
 unfold qjr
 rw [qiL,qiL]
 refine Ev.bind hL1 ?_
 cases allN (fun j=>instB l d (gt d.Aa j)) d.Aa.length
 ·exact .done
 ·refine Ev.bind hL3 ?_
  cases allN (fun j=>portB d (gt d.Aj j)) d.Aj.length<;>exact .done
theorem qts {l:qn} {d:qd} (h:qh7 l) (hd:qkD d):Ev (fun n=>qjn n l d) (designB l d):=by
 have hli:=hd.Aa.len
 have hlp:=hd.Aj.len
 have hln:=hd.Ak.len
 have hlc:=h.Ar.len
 have e:designB l d=((libB l&&(decide (d.Aa.length≤14)&&(decide (d.Ak.length≤30)&&(decide (d.Aj.length≤8)&&(d.Aa.all (instB l d)&&d.Aj.all (portB d))))))&&((namesB (d.Aa.map qi.Bb)&&(namesB (d.Aj.map qL.Bb)&&namesB d.Ak))&&drvB d)):=by
  unfold designB hasNamesB
  generalize libB l=a1
  generalize decide (d.Aa.length≤14)=a2
  generalize decide (d.Ak.length≤30)=a3
  generalize decide (d.Aj.length≤8)=a4
  generalize d.Aa.all (instB l d)=a5
  generalize d.Aj.all (portB d)=a6
  generalize namesB (d.Aa.map qi.Bb)=a7
  generalize namesB (d.Aj.map qL.Bb)=a8
  generalize namesB d.Ak=a9
  generalize drvB d=a10
  rw [jm]
  simp only [jf]
  constructor
  ·rintro ⟨⟨h1,⟨h2,h3,h4⟩,h7,h9,h8⟩,h5,h6,h10⟩
   exact ⟨⟨h1,h2,h3,h4,h5,h6⟩,⟨h7,h8,h9⟩,h10⟩
  ·rintro ⟨⟨h1,h2,h3,h4,h5,h6⟩,⟨h7,h8,h9⟩,h10⟩
   exact ⟨⟨h1,⟨h2,h3,h4⟩,h7,h9,h8⟩,h5,h6,h10⟩
 rw [e]
 unfold qjn
 refine Ev.guardB ?_ fun hb=>?_
 ·refine Ev.or (qrN h) fun _=>?_
  rw [show decide ((d.Aa.length:Int) > 14) = !decide (d.Aa.length≤14) by rw [jm];simp;omega,show decide ((d.Ak.length:Int) > 30) = !decide (d.Ak.length≤30) by rw [jm];simp;omega,show decide ((d.Aj.length:Int) > 8) = !decide (d.Aj.length≤8) by rw [jm];simp;omega]
  simp only [qc8]
  exact Ev.orBP fun _=>Ev.orBP fun _=>Ev.orBP fun _=>Ev.neg (quB h hd)
 ·simp only [jf] at hb
  obtain ⟨hlib,_,_,_,hI,hP⟩:=hb
  rw [qiL,qai] at hI hP
  have hL1:Ev (fun n=>qde d n ([]:List ByteArray) 0) (d.Aa.map qi.Bb,(d.Aa.length:Int)):=by
   refine loopF (Lf:=qde d) (S:=fun j=>(d.Aa.take j).map qi.Bb) (len:=d.Aa.length) (fun n=>?_) (fun j hj X hX=>?_)
   ·simp only [qde,ql (je _),cond_false,jD]
   ·simpa only [qde,qj hj,cond_true,qA hj,jd,qlY hj hli,qf5 (g:=qi.Bb) hj,wS j] using hX
  have hL2:Ev (fun n=>qdk d n ([]:List ByteArray) 0) (d.Aj.map qL.Bb,(d.Aj.length:Int)):=by
   refine loopF (Lf:=qdk d) (S:=fun j=>(d.Aj.take j).map qL.Bb) (len:=d.Aj.length) (fun n=>?_) (fun j hj X hX=>?_)
   ·simp only [qdk,ql (je _),cond_false,jD]
   ·simpa only [qdk,qj hj,cond_true,qA hj,jd,qlY hj hlp,qf5 (g:=qL.Bb) hj,wS j] using hX
  have hL3:Ev (fun n=>qdg d n (vecC (fun _=>0) d.Ak.length) 0) (vecC (fun k=>drvI d k d.Aa.length) d.Ak.length,(d.Aa.length:Int)):=by
   refine loopF (Lf:=qdg d) (S:=fun j=>vecC (fun k=>drvI d k j) d.Ak.length) (len:=d.Aa.length) (fun n=>?_) (fun j hj X hX=>?_)
   ·simp only [qdg,ql (je _),cond_false]
   ·have hxl:=(qng hd.Aa hj).Ak.len
    obtain ⟨h1,h2,h3⟩:=qq3 hlib (hI j hj)
    have hc:drvI d (lastN (gt d.Aa j)).toNat j≤j:=qge
    obtain ⟨e1,e2⟩:=qmd (c:=fun k=>drvI d k j) (c':=fun k=>drvI d k (j+1)) h2 h3 (by show drvI _ _ _<_;omega) (fun k _=>qpo)
    simpa only [qdg,qj hj,cond_true,qA hj,jd,wS j,quG h1 hxl,e1,e2] using hX
  have hL4:Ev (fun n=>qcw d n (vecC (fun k=>drvI d k d.Aa.length) d.Ak.length) 0) (vecC (fun k=>drvI d k d.Aa.length+drvP d k d.Aj.length) d.Ak.length,(d.Aj.length:Int)):=by
   refine loopF (Lf:=qcw d) (S:=fun j=>vecC (fun k=>drvI d k d.Aa.length+drvP d k j) d.Ak.length) (len:=d.Aj.length) (fun n=>?_) (fun j hj X hX=>?_)
   ·simp only [qcw,ql (je _),cond_false]
   ·have hi:=hP j hj
    unfold portB netB at hi
    simp only [jf,qbd] at hi
    have hc1:drvI d (gt d.Aj j).Bx.toNat d.Aa.length≤d.Aa.length:=qge
    have hc2:drvP d (gt d.Aj j).Bx.toNat j≤j:=qge
    simp only [qcw,qj hj,cond_true,qA hj,jd,wS j]
    cases h1:((gt d.Aj j).Bv==1)
    ·have:vecC (fun k=>drvI d k d.Aa.length+drvP d k (j+1)) d.Ak.length=vecC (fun k=>drvI d k d.Aa.length+drvP d k j) d.Ak.length:=by
      refine qkE (fun k _=>?_)
      rw [qnH,h1];rfl
     rw [this] at hX
     exact hX
    ·obtain ⟨e1,e2⟩:=qmd (c:=fun k=>drvI d k d.Aa.length+drvP d k j) (c':=fun k=>drvI d k d.Aa.length+drvP d k (j+1)) (x:=(gt d.Aj j).Bx) (m:=d.Ak.length) hi.2.1 (by omega) (by show drvI _ _ _+drvP _ _ _<_;omega) (fun k _=>by rw [qnH,h1,jA];omega)
     simp only [cond_true,jd,e1,e2]
     exact hX
  have hL5:Ev (fun n=>qeh (vecC (fun _=>0) d.Ak.length) (vecC (fun k=>drvI d k d.Aa.length+drvP d k d.Aj.length) d.Ak.length) n 0) (bif drvB d then .nxt (d.Ak.length:Int) else .ret false):=by
   refine qeK ?_ (fun j hj X hX=>Ev.succ ?_)
   ·exact Ev.succ (by simp only [qeh,qnE,ql (je _),cond_false];exact .done)
   ·simp only [qeh,qnE,qj hj,cond_true,qk5 hj,jd,bne,qc8,wS j]
    exact Ev.okP1 fun _=>hX
  refine Ev.bind hL1 (Ev.bind hL2 ?_)
  refine Ev.guardB (Ev.or (qnr (qnO hd.Aa (fun x hx=>hx.Bb))) fun _=>Ev.or (qnr (qnO hd.Aj (fun x hx=>hx.Bb))) fun _=>Ev.neg (qnr hd.Ak)) fun _=>?_
  rw [qnN (m:=d.Ak.length) (by omega)]
  simp only [jd]
  refine Ev.bind hL3 (Ev.bind hL4 (Ev.bind hL5 ?_))
  cases drvB d<;>exact .done
end Go.Fw


namespace Go.Fw
open Go
set_option maxRecDepth 100000
theorem qy7 {m k:Nat}:decide ((m:Int)<(k:Int)) = !decide (k≤m):=by rw [jm];simp
theorem qyh {m k:Nat}:decide ((m:Int) > (k:Int)) = !decide (m≤k):=by rw [jm];simp
def treeB (w:qD) (j:Nat):Bool:=bif decide (j=0) then (at0 w.Am j==-1)&&(at0 w.Bw j==0) else inI (at0 w.Am j) 0 ((j:Int)-1)
def wireB (w:qD) (s:Int):Bool :=
 lenB w.Am 1 8&&(((w.Bw.length:Int)==(w.Am.length:Int))&&(((w.Bs.length:Int)==(w.Am.length:Int))&&(allN (treeB w) w.Am.length &&
  ((w.Bw.all fun x=>inI x 0 1000)&&((w.Bs.all fun x=>inI x 0 500)&&(((w.Bl.length:Int)==s)&&(w.Bl.all fun x=>inI x 0 ((w.Am.length:Int)-1))))))))
theorem qwx {w:qD} (hl:w.Am.length≤1048576) (hr:((w.Bw.length:Int)==(w.Am.length:Int))=true):Ev (fun n=>qhb n w) (allN (treeB w) w.Am.length):=by
 rw [beq_iff_eq] at hr
 have hL:Ev (fun n=>qbc w n 0) (bif allN (treeB w) w.Am.length then .nxt (w.Am.length:Int) else .ret false):=by
  refine qeK ?_ (fun j hj X hX=>Ev.succ ?_)
  ·exact Ev.succ (by simp only [qbc,ql (je _),cond_false];exact .done)
  ·simp only [qbc,qj hj,cond_true,qak hj,jd,qdi,wS j,bne,qc8]
   unfold treeB
   by_cases h0:j=0
   ·subst h0
    rw [show idx w.Bw (0:Int)=some (at0 w.Bw 0) from qak (j:=0) (by omega)]
    simp only [jd]
    refine Ev.tt (by simp) (Ev.okP fun _=>Ev.okP1 fun _=>Ev.ff (by simp) hX)
   ·have e1:decide (j=0)=false:=by simp;omega
    have e2:((j:Int)==0)=false:=by simp;omega
    have e3:decide ((j:Int) > 0)=true:=by simp;omega
    rw [e1,e2,e3,qfe (show j≤9223372036854775807 by omega)]
    simp only [cond_false,cond_true]
    exact Ev.okP1 fun _=>hX
 unfold qhb
 refine Ev.bind hL ?_
 cases allN (treeB w) w.Am.length<;>exact .done
theorem qwT {w:qD} {s:Int} (h:qoR w):Ev (fun n=>qlo n w s) (wireB w s):=by
 have hl:=h.Am.len
 simp only [qlo,qbr,jd,qdi,qfe (show w.Am.length≤9223372036854775807 by omega)]
 unfold wireB
 rw [show inI (w.Am.length:Int) 1 8=lenB w.Am 1 8 from qs9 (lo:=1) (hi:=8)]
 exact Ev.andP fun _=>Ev.andP fun hr=>Ev.andP fun _=>Ev.and (qwx hl hr) fun _=>Ev.and (qfb h.Bw.len) fun _=>Ev.and (qfb h.Bs.len) fun _=>Ev.andP fun _=>Ev.last (qfb h.Bl.len)
theorem qvn {w:qD} {s:Int} (h:qoR w):Ev (fun n=>qlF n w s) (wireB w s):=by
 have hl:=h.Am.len
 have hsl:=h.Bl.len
 have e:wireB w s=((decide (1≤w.Am.length)&&(decide (w.Am.length≤8)&&(((w.Bw.length:Int)==(w.Am.length:Int))&&(((w.Bs.length:Int)==(w.Am.length:Int))&&((w.Bl.length:Int)==s)))))&&(allN (fun j=>(inI (at0 w.Bs j) 0 500&&inI (at0 w.Bw j) 0 1000)&&treeB w j) w.Am.length&&(w.Bl.all fun x=>inI x 0 ((w.Am.length:Int)-1)))):=by
  unfold wireB lenB
  cases h1:((w.Bw.length:Int)==(w.Am.length:Int))
  ·simp
  ·cases h2:((w.Bs.length:Int)==(w.Am.length:Int))
   ·simp
   ·rw [beq_iff_eq] at h1 h2
    rw [qlR,qlR]
    rw [qg4 (p:=fun x=>inI x 0 1000) (d:=0),qg4 (p:=fun x=>inI x 0 500) (d:=0),show w.Bw.length=w.Am.length by omega,show w.Bs.length=w.Am.length by omega]
    show _=(_&&((allN (fun j=>inI (w.Bs.getD j 0) 0 500) _&&allN (fun j=>inI (w.Bw.getD j 0) 0 1000) _&&_)&&_))
    generalize allN (fun j=>inI (w.Bs.getD j 0) 0 500) w.Am.length=a1
    generalize allN (fun j=>inI (w.Bw.getD j 0) 0 1000) w.Am.length=a2
    generalize allN (fun j=>treeB w j) w.Am.length=a3
    generalize ((w.Bl.length:Int)==s)=a4
    generalize decide (1≤w.Am.length)=a5
    generalize decide (w.Am.length≤8)=a6
    generalize (w.Bl.all fun x=>inI x 0 ((w.Am.length:Int)-1))=a7
    cases a1<;>cases a2<;>cases a3<;>cases a4<;>cases a5<;>cases a6<;>rfl
 rw [e]
 unfold qlF
 refine Ev.guardB ?_ fun hb=>?_
 ·rw [show decide ((w.Am.length:Int)<1) = !decide (1≤w.Am.length) from qy7 (k:=1),show decide ((w.Am.length:Int) > 8) = !decide (w.Am.length≤8) from qyh (k:=8)]
  simp only [bne,qc8]
  exact Ev.orBP fun _=>Ev.orBP fun _=>Ev.orBP fun _=>Ev.orBP fun _=>.done
 ·simp only [jf,beq_iff_eq] at hb
  have hL1:Ev (fun n=>qcN w n 0) (bif allN (fun j=>(inI (at0 w.Bs j) 0 500&&inI (at0 w.Bw j) 0 1000)&&treeB w j) w.Am.length then .nxt (w.Am.length:Int) else .ret false):=by
   refine qeK ?_ (fun j hj X hX=>Ev.succ ?_)
   ·exact Ev.succ (by simp only [qcN,ql (je _),cond_false];exact .done)
   ·simp only [qcN,qj hj,cond_true,qak hj,qak (show j<w.Bs.length by omega),qak (show j<w.Bw.length by omega),jd,qcK,wS j,bne,qc8]
    refine Ev.chkT (Ev.orBP fun _=>.done) fun _=>?_
    unfold treeB
    by_cases h0:j=0
    ·subst h0
     refine Ev.tt (by simp) (Ev.okP fun _=>Ev.okP1 fun _=>Ev.ff (by simp) hX)
    ·have e1:decide (j=0)=false:=by simp;omega
     have e2:((j:Int)==0)=false:=by simp;omega
     have e3:decide ((j:Int) > 0)=true:=by simp;omega
     rw [e1,e2,e3,qfe (show j≤9223372036854775807 by omega)]
     simp only [cond_false,cond_true]
     exact Ev.okP1 fun _=>hX
  have hL2:Ev (fun n=>qfK w n 0) (bif (w.Bl.all fun x=>inI x 0 ((w.Am.length:Int)-1)) then .nxt (w.Bl.length:Int) else .ret false) :=
   qoF (fun n=>by simp only [qfK,ql (je _),cond_false]) (fun j hj X hX=>by
    simp only [qfK,qj hj,cond_true,qgS hj,jd,qcK,qfe (show w.Am.length≤9223372036854775807 by omega),wS j,qc8]
    exact Ev.okP1 fun _=>hX)
  refine Ev.bind hL1 ?_
  cases allN (fun j=>(inI (at0 w.Bs j) 0 500&&inI (at0 w.Bw j) 0 1000)&&treeB w j) w.Am.length
  ·exact .done
  ·refine Ev.bind hL2 ?_
   cases (w.Bl.all fun x=>inI x 0 ((w.Am.length:Int)-1))<;>exact .done
instance:Inhabited Tplace:=⟨⟨0,0,0,false⟩⟩
instance:Inhabited Tl05Place:=⟨⟨0,0,0,false⟩⟩
def toSp (p:Tplace):Tl05Place:=⟨p.instance_,p.pin,p.net,p.drives⟩
def plX (i:Nat) (x:qi) (j:Nat):List Tplace:=(List.range j).map fun (k:Nat)=>⟨(i:Int),(k:Int),at0 x.Ak k,decide (k+1=x.Ak.length)⟩
def plI (d:qd) (j:Nat):List Tplace:=(List.range j).flatMap fun (i:Nat)=>plX i (gt d.Aa i) (gt d.Aa i).Ak.length
def plP (d:qd) (j:Nat):List Tplace:=(List.range j).map fun (i:Nat)=>⟨-1,(i:Int),(gt d.Aj i).Bx,(gt d.Aj i).Bv==1⟩
def places (d:qd):List Tplace:=plI d d.Aa.length++plP d d.Aj.length
theorem qt8 {i:Nat} {x:qi} {j:Nat}:plX i x (j+1)=plX i x j++[⟨(i:Int),(j:Int),at0 x.Ak j,decide (j+1=x.Ak.length)⟩]:=by
 unfold plX;rw [List.range_succ,jK];rfl
theorem qm9 {d:qd} {j:Nat}:plI d (j+1)=plI d j++plX j (gt d.Aa j) (gt d.Aa j).Ak.length:=by
 unfold plI;rw [List.range_succ,List.flatMap_append];simp
theorem quh {d:qd} {j:Nat}:plP d (j+1)=plP d j++[⟨-1,(j:Int),(gt d.Aj j).Bx,(gt d.Aj j).Bv==1⟩]:=by
 unfold plP;rw [List.range_succ,jK];rfl
theorem qqL {i:Nat} {x:qi} {j:Nat}:(plX i x j).length=j:=by simp [plX]
theorem qqP {d:qd} {j:Nat}:(plP d j).length=j:=by simp [plP]
structure smallD (d:qd):Prop where
 ni:d.Aa.length≤14
 nn:d.Ak.length≤30
 np:d.Aj.length≤8
 nx:∀ i,i<d.Aa.length→2≤(gt d.Aa i).Ak.length∧(gt d.Aa i).Ak.length≤5
theorem qad {l:qn} {d:qd} (h:designB l d=true):smallD d:=by
 unfold designB hasNamesB libB at h
 simp only [jf,decide_eq_true_eq] at h
 obtain ⟨⟨⟨hc,_⟩,⟨h1,h2,h3⟩,_⟩,hI,_⟩:=h
 refine ⟨h1,h2,h3,fun i hi=>?_⟩
 rw [qiL,qai] at hI hc
 have:=hI i hi
 unfold instB at this
 simp only [jf,qbd,beq_iff_eq] at this
 have h5:=qg5 (qi7 (hc (gt d.Aa i).Bt.toNat (by omega)))
 omega
theorem qoH {d:qd} (h:smallD d) {j:Nat} (hj:j≤d.Aa.length):(plI d j).length≤5*j:=by
 induction j with
 | zero=>exact je _
 | succ j ih =>
  rw [qm9,jh,qqL]
  have:=ih (by omega)
  have:=h.nx j (by omega)
  omega
theorem qbg {d:qd} (h:smallD d):(places d).length≤78:=by
 unfold places
 rw [jh,qqP]
 have:=qoH h (je _)
 have:=h.ni
 have:=h.np
 omega
theorem qnS {d:qd} (h:smallD d):Ev (fun n=>qcm n d) (places d):=by
 have h1:=h.ni
 have h2:=h.np
 have hL2:∀ i,i<d.Aa.length→∀ pre:List Tplace,pre.length≤100→Ev (fun n=>qbD (i:Int) (gt d.Aa i) n pre 0) (pre++plX i (gt d.Aa i) (gt d.Aa i).Ak.length,((gt d.Aa i).Ak.length:Int)):=by
  intro i hi pre hp
  have h5:=h.nx i hi
  have:=loopF (Lf:=qbD (i:Int) (gt d.Aa i)) (S:=fun j=>pre++plX i (gt d.Aa i) j) (len:=(gt d.Aa i).Ak.length) (fin:=(pre++plX i (gt d.Aa i) (gt d.Aa i).Ak.length,((gt d.Aa i).Ak.length:Int))) (fun n=>by
    simp only [qbD,ql (je _),cond_false])
   (fun j hj X hX=>by
    have hc:(pre++plX i (gt d.Aa i) j).length+[(⟨(i:Int),(j:Int),at0 (gt d.Aa i).Ak j,decide (j+1=(gt d.Aa i).Ak.length)⟩:Tplace)].length≤2147483648:=by
     rw [jh,qqL];simp;omega
    simp only [qbD,qj hj,cond_true,qak hj,jd,lastE hj (show (gt d.Aa i).Ak.length≤1048576 by omega),qc6 hc,jq,←qt8,wS j]
    exact hX)
  simpa [plX] using this
 have hL1:Ev (fun n=>qbG d n ([]:List Tplace) 0) (plI d d.Aa.length,(d.Aa.length:Int)):=by
  refine loopF (Lf:=qbG d) (S:=fun j=>plI d j) (len:=d.Aa.length) (fun n=>?_) (fun j hj X hX=>?_)
  ·simp only [qbG,ql (je _),cond_false]
  ·simp only [qbG,qj hj,cond_true,qA hj,jd,wS j]
   refine Ev.bind (hL2 j hj _ (by have:=qoH h (Nat.le_of_lt hj);omega)) ?_
   rw [←qm9]
   exact hX
 have hL3:Ev (fun n=>qbC d n (plI d d.Aa.length) 0) (places d,(d.Aj.length:Int)):=by
  have:=loopF (Lf:=qbC d) (S:=fun j=>plI d d.Aa.length++plP d j) (len:=d.Aj.length) (fin:=(places d,(d.Aj.length:Int))) (fun n=>by
    simp only [qbC,ql (je _),cond_false];rfl)
   (fun j hj X hX=>by
    have hc:(plI d d.Aa.length++plP d j).length+[(⟨-1,(j:Int),(gt d.Aj j).Bx,(gt d.Aj j).Bv==1⟩:Tplace)].length≤2147483648:=by
     rw [jh,qqP];have:=qoH h (je _);simp;omega
    simp only [qbC,qj hj,cond_true,qA hj,jd,qc6 hc,jq,←quh,wS j]
    exact hX)
  simpa [plP] using this
 unfold qcm
 exact Ev.bind hL1 (Ev.bind hL3 .done)
theorem qib {d:qd} (h:smallD d):Ev (fun n=>qcd n d) ((places d).map toSp):=by
 have h1:=h.ni
 have h2:=h.np
 have hL2:∀ i,i<d.Aa.length→∀ pre:List Tplace,pre.length≤100→Ev (fun n=>qcO (i:Int) (gt d.Aa i) n (pre.map toSp) 0) ((pre++plX i (gt d.Aa i) (gt d.Aa i).Ak.length).map toSp,((gt d.Aa i).Ak.length:Int)):=by
  intro i hi pre hp
  have h5:=h.nx i hi
  have:=loopF (Lf:=qcO (i:Int) (gt d.Aa i)) (S:=fun j=>(pre++plX i (gt d.Aa i) j).map toSp) (len:=(gt d.Aa i).Ak.length) (fin:=((pre++plX i (gt d.Aa i) (gt d.Aa i).Ak.length).map toSp,((gt d.Aa i).Ak.length:Int))) (fun n=>by
    simp only [qcO,ql (je _),cond_false])
   (fun j hj X hX=>by
    have hc:((pre++plX i (gt d.Aa i) j).map toSp).length+[(⟨(i:Int),(j:Int),at0 (gt d.Aa i).Ak j,decide (j+1=(gt d.Aa i).Ak.length)⟩:Tl05Place)].length≤2147483648:=by
     rw [jz,jh,qqL];simp;omega
    simp only [qcO,qj hj,cond_true,qak hj,jd,lastE hj (show (gt d.Aa i).Ak.length≤1048576 by omega),qc6 hc,wS j]
    rw [qt8,←jq,jK] at hX
    exact hX)
  simpa [plX] using this
 have hL1:Ev (fun n=>qcQ d n ([]:List Tl05Place) 0) ((plI d d.Aa.length).map toSp,(d.Aa.length:Int)):=by
  refine loopF (Lf:=qcQ d) (S:=fun j=>(plI d j).map toSp) (len:=d.Aa.length) (fun n=>?_) (fun j hj X hX=>?_)
  ·simp only [qcQ,ql (je _),cond_false]
  ·simp only [qcQ,qj hj,cond_true,qA hj,jd,wS j]
   refine Ev.bind (hL2 j hj _ (by have:=qoH h (Nat.le_of_lt hj);omega)) ?_
   rw [←qm9]
   exact hX
 have hL3:Ev (fun n=>qcJ d n ((plI d d.Aa.length).map toSp) 0) ((places d).map toSp,(d.Aj.length:Int)):=by
  have:=loopF (Lf:=qcJ d) (S:=fun j=>(plI d d.Aa.length++plP d j).map toSp) (len:=d.Aj.length) (fin:=((places d).map toSp,(d.Aj.length:Int))) (fun n=>by
    simp only [qcJ,ql (je _),cond_false];rfl)
   (fun j hj X hX=>by
    have hc:((plI d d.Aa.length++plP d j).map toSp).length+[(⟨-1,(j:Int),(gt d.Aj j).Bx,(gt d.Aj j).Bv==1⟩:Tl05Place)].length≤2147483648:=by
     rw [jz,jh,qqP];have:=qoH h (je _);simp;omega
    simp only [qcJ,qj hj,cond_true,qA hj,jd,qc6 hc,wS j]
    rw [quh,←jq,jK] at hX
    exact hX)
  simpa [plP] using this
 unfold qcd
 exact Ev.bind hL1 (Ev.bind hL3 .done)
def snkQ (d:qd) (k:Int) (i:Nat):Bool:=((gt (places d) i).net==k)&&!(gt (places d) i).drives
def sinksL (d:qd) (k:Int) (j:Nat):List Int:=((List.range j).filter (snkQ d k)).map fun (i:Nat)=>(i:Int)
def snkN (d:qd) (k:Int):Nat:=cntP (snkQ d k) (places d).length
theorem qjY {d:qd} {k:Int} {j:Nat}:sinksL d k (j+1)=sinksL d k j++(bif snkQ d k j then [(j:Int)] else []):=by
 unfold sinksL
 rw [List.range_succ,List.filter_append,jK]
 congr 1
 cases h:snkQ d k j<;>simp [h]
theorem qji {d:qd} {k:Int} {j:Nat}:(sinksL d k j).length=cntP (snkQ d k) j:=by
 induction j with
 | zero=>rfl
 | succ j ih =>
  rw [qjY,jh,ih]
  show _=cntP (snkQ d k) j+_
  congr 1
  cases snkQ d k j<;>rfl
theorem qpR {α β:Type} [Inhabited α] [Inhabited β] {xs:List α} {g:α→β} {j:Nat} (h:j<xs.length):gt (xs.map g) j=g (gt xs j):=by
 rw [qe3 (by simpa using h),qe3 h];simp
theorem qni {d:qd} {k:Int} (h:smallD d):Ev (fun n=>qgx n d k) (sinksL d k (places d).length):=by
 have hl:=qbg h
 have hL:Ev (fun n=>qcq k ((places d).map toSp) n ([]:List Int) 0) (sinksL d k (places d).length,((places d).length:Int)):=by
  refine loopF (Lf:=qcq k ((places d).map toSp)) (S:=fun j=>sinksL d k j) (len:=(places d).length) (fun n=>?_) (fun j hj X hX=>?_)
  ·simp only [qcq,jz,ql (je _),cond_false]
  ·have hj':j<((places d).map toSp).length:=by simpa using hj
   have hc:(sinksL d k j).length+[(j:Int)].length≤2147483648:=by
    rw [qji]
    have:cntP (snkQ d k) j≤j:=qge
    simp;omega
   simp only [qcq,qj hj',cond_true,qA hj',qpR hj,jd,wS j]
   rw [show ∀ p:Tplace,(toSp p).net=p.net from fun _=>rfl,show ∀ p:Tplace,(toSp p).drives=p.drives from fun _=>rfl]
   refine Ev.bind (b:=snkQ d k j) (Ev.andP fun _=>.done) ?_
   rw [qjY] at hX
   cases hq:snkQ d k j
   ·rw [hq] at hX
    simp only [cond_false,jY] at hX ⊢
    exact hX
   ·rw [hq] at hX
    simp only [cond_true,qc6 hc,jd] at hX ⊢
    exact hX
 unfold qgx
 exact Ev.bind (qib h) (Ev.bind hL .done)
theorem qmB {l:qn} {d:qd} (h:designB l d=true) {i:Nat} (hi:i<(places d).length):0≤(gt (places d) i).net∧(gt (places d) i).net<d.Ak.length:=by
 unfold designB at h
 simp only [jf] at h
 obtain ⟨_,hI,hP,_⟩:=h
 rw [qiL,qai] at hI hP
 have hm:gt (places d) i ∈ places d:=by rw [qe3 hi];exact jp hi
 generalize gt (places d) i=p at hm
 unfold places at hm
 rcases List.mem_append.1 hm with hm|hm
 ·unfold plI at hm
  obtain ⟨i,hi,hm⟩:=List.mem_flatMap.1 hm
  unfold plX at hm
  obtain ⟨k,hk,rfl⟩:=List.mem_map.1 hm
  have:=hI i (List.mem_range.1 hi)
  unfold instB at this
  simp only [jf] at this
  have h3:=this.2.2
  rw [qg4 (d:=0),qai] at h3
  have h4:=h3 k (List.mem_range.1 hk)
  unfold netB at h4
  rw [qbd] at h4
  show 0≤at0 _ _∧at0 _ _<_
  unfold at0
  omega
 ·unfold plP at hm
  obtain ⟨i,hi,rfl⟩:=List.mem_map.1 hm
  have:=hP i (List.mem_range.1 hi)
  unfold portB netB at this
  simp only [jf,qbd] at this
  show 0≤(gt d.Aj i).Bx∧(gt d.Aj i).Bx<_
  omega
def blockB (b:qg):Bool:=(designB b.Av b.Ab&&((b.Ac.length:Int)==(b.Ab.Ak.length:Int)))&&allN (fun j=>wireB (gt b.Ac j) (snkN b.Ab (j:Int))) b.Ac.length
theorem qvz {b:qg} (h:qmc b):Ev (fun n=>qiN n b) (blockB b):=by
 have hwl:=h.Ac.len
 unfold qiN blockB
 refine Ev.guardB (Ev.or (qt1 h.Av h.Ab) fun _=>.done) fun hb=>?_
 rw [jf,beq_iff_eq] at hb
 obtain ⟨hd,hw⟩:=hb
 have hs:=qad hd
 have hl:=qbg hs
 have hn:=hs.nn
 rw [qnN (m:=b.Ac.length) (by omega)]
 simp only [jd]
 have hL1:Ev (fun n=>qcZ (places b.Ab) n (vecC (fun _=>0) b.Ac.length) 0) (vecC (fun k=>snkN b.Ab (k:Int)) b.Ac.length,((places b.Ab).length:Int)):=by
  refine loopF (Lf:=qcZ (places b.Ab)) (S:=fun j=>vecC (fun k=>cntP (snkQ b.Ab (k:Int)) j) b.Ac.length) (len:=(places b.Ab).length) (fun n=>?_) (fun j hj X hX=>?_)
  ·simp only [qcZ,ql (je _),cond_false];rfl
  ·simp only [qcZ,qj hj,cond_true,qA hj,jd,wS j]
   obtain ⟨n0,n1⟩:=qmB hd hj
   cases h1:(gt (places b.Ab) j).drives
   ·have hc:cntP (snkQ b.Ab (((gt (places b.Ab) j).net.toNat:Nat):Int)) j≤j:=qge
    obtain ⟨e1,e2⟩:=qmd (c:=fun k=>cntP (snkQ b.Ab (k:Int)) j) (c':=fun k=>cntP (snkQ b.Ab (k:Int)) (j+1)) (x:=(gt (places b.Ab) j).net) (m:=b.Ac.length) n0 (by omega) (by show cntP _ _<_;omega) (fun k _=>by
     show cntP _ j+(bif snkQ b.Ab (k:Int) j then 1 else 0)=_
     unfold snkQ
     rw [h1,Bool.not_false,Bool.and_true])
    simp only [Bool.not_false,cond_true,jd,e1,e2]
    exact hX
   ·have:vecC (fun k=>cntP (snkQ b.Ab (k:Int)) (j+1)) b.Ac.length=vecC (fun k=>cntP (snkQ b.Ab (k:Int)) j) b.Ac.length:=by
     refine qkE (fun k _=>?_)
     show cntP _ j+(bif snkQ b.Ab (k:Int) j then 1 else 0)=_
     unfold snkQ
     rw [h1,Jc,Bool.and_false];rfl
    rw [this] at hX
    exact hX
 have hL2:Ev (fun n=>qeV b (vecC (fun k=>snkN b.Ab (k:Int)) b.Ac.length) n 0) (bif allN (fun j=>wireB (gt b.Ac j) (snkN b.Ab (j:Int))) b.Ac.length then .nxt (b.Ac.length:Int) else .ret false):=by
  refine qeK ?_ (fun j hj X hX=>Ev.succ ?_)
  ·exact Ev.succ (by simp only [qeV,ql (je _),cond_false];exact .done)
  ·simp only [qeV,qj hj,cond_true,qA hj,qk5 hj,jd,wS j]
   exact Ev.chk1 (qwT (qng h.Ac hj)) fun _=>hX
 refine Ev.bind (qnS hs) (Ev.bind hL1 (Ev.bind hL2 ?_))
 cases allN (fun j=>wireB (gt b.Ac j) (snkN b.Ab (j:Int))) b.Ac.length<;>exact .done
theorem qp2 {b:qg} (h:qmc b):Ev (fun n=>qhj n b) (blockB b):=by
 have hwl:=h.Ac.len
 unfold qhj blockB
 refine Ev.guardB (Ev.or (qts h.Av h.Ab) fun _=>.done) fun hb=>?_
 rw [jf] at hb
 have hs:=qad hb.1
 have hL:Ev (fun n=>qeT b n 0) (bif allN (fun j=>wireB (gt b.Ac j) (snkN b.Ab (j:Int))) b.Ac.length then .nxt (b.Ac.length:Int) else .ret false):=by
  refine qeK ?_ (fun j hj X hX=>Ev.succ ?_)
  ·exact Ev.succ (by simp only [qeT,ql (je _),cond_false];exact .done)
  ·simp only [qeT,qj hj,cond_true,qA hj,jd,wS j]
   refine Ev.bind (qni hs) ?_
   rw [qji]
   exact Ev.chk1 (qvn (qng h.Ac hj)) fun _=>hX
 refine Ev.bind hL ?_
 cases allN (fun j=>wireB (gt b.Ac j) (snkN b.Ab (j:Int))) b.Ac.length<;>exact .done
end Go.Fw


namespace Go.Fw
open Go
set_option maxRecDepth 100000
def off (d:qd) (i:Nat):Nat:=(plI d i).length
def place1 (d:qd) (i k:Nat):Tplace:=⟨(i:Int),(k:Int),at0 (gt d.Aa i).Ak k,decide (k+1=(gt d.Aa i).Ak.length)⟩
def place2 (d:qd) (i:Nat):Tplace:=⟨-1,(i:Int),(gt d.Aj i).Bx,(gt d.Aj i).Bv==1⟩
theorem qkV {d:qd} {i:Nat}:off d (i+1)=off d i+(gt d.Aa i).Ak.length:=by
 unfold off;rw [qm9,jh,qqL]
theorem qvv {d:qd} {i j:Nat} (h:i≤j):off d i≤off d j:=by
 induction j with
 | zero =>
  obtain rfl:i=0:=by omega
  exact je _
 | succ j ih =>
  rcases Nat.lt_or_eq_of_le h with h|rfl
  ·rw [qkV];have:=ih (by omega);omega
  ·exact je _
theorem qg3 {d:qd}:(places d).length=off d d.Aa.length+d.Aj.length:=by
 unfold places off;rw [jh,qqP]
theorem qzR {d:qd} {n i k:Nat} (hi:i<n) (hk:k<(gt d.Aa i).Ak.length):off d i+k<off d n∧gt (plI d n) (off d i+k)=place1 d i k:=by
 induction n with
 | zero=>omega
 | succ n ih =>
  rw [qm9,qlW]
  rcases Nat.lt_succ_iff_lt_or_eq.1 hi with h|rfl
  ·obtain ⟨h1,h2⟩:=ih h
   refine ⟨by rw [qkV];omega,?_⟩
   rw [if_pos (show off d i+k<(plI d n).length from h1),h2]
  ·refine ⟨by rw [qkV];omega,?_⟩
   rw [if_neg (by unfold off;omega),show off d i+k-(plI d i).length=k by unfold off;omega]
   exact qrA hk
theorem qkw {d:qd} {i k:Nat} (hi:i<d.Aa.length) (hk:k<(gt d.Aa i).Ak.length):off d i+k<(places d).length∧gt (places d) (off d i+k)=place1 d i k:=by
 obtain ⟨h1,h2⟩:=qzR hi hk
 refine ⟨by rw [qg3];omega,?_⟩
 unfold places
 rw [qlW,if_pos (show off d i+k<(plI d d.Aa.length).length from h1),h2]
theorem qsN {d:qd} {i:Nat} (hi:i<d.Aj.length):off d d.Aa.length+i<(places d).length∧gt (places d) (off d d.Aa.length+i)=place2 d i:=by
 refine ⟨by rw [qg3];omega,?_⟩
 unfold places
 rw [qlW,if_neg (by unfold off;omega),show off d d.Aa.length+i-(plI d d.Aa.length).length=i by unfold off;omega]
 exact qrA hi
theorem qwU {d:qd} {n j:Nat} (hj:j<off d n):∃ i k,i<n∧k<(gt d.Aa i).Ak.length∧j=off d i+k:=by
 induction n with
 | zero=>exact absurd hj (Nat.not_lt_zero _)
 | succ n ih =>
  by_cases h:j<off d n
  ·obtain ⟨i,k,h1,h2,h3⟩:=ih h
   exact ⟨i,k,by omega,h2,h3⟩
  ·rw [qkV] at hj
   exact ⟨n,j-off d n,by omega,by omega,by omega⟩
theorem qlD {d:qd} {j:Nat} (hj:j<(places d).length) :
  (∃ i k,i<d.Aa.length∧k<(gt d.Aa i).Ak.length∧j=off d i+k∧gt (places d) j=place1 d i k) ∨
  (∃ i,i<d.Aj.length∧j=off d d.Aa.length+i∧gt (places d) j=place2 d i):=by
 rw [qg3] at hj
 by_cases h:j<off d d.Aa.length
 ·obtain ⟨i,k,h1,h2,rfl⟩:=qwU h
  exact .inl ⟨i,k,h1,h2,rfl,(qkw h1 h2).2⟩
 ·refine .inr ⟨j-off d d.Aa.length,by omega,by omega,?_⟩
  have:=(qsN (d:=d) (i:=j-off d d.Aa.length) (by omega)).2
  rwa [show off d d.Aa.length+(j-off d d.Aa.length)=j by omega] at this
def drvQ (d:qd) (k:Int) (j:Nat):Bool:=((gt (places d) j).net==k)&&(gt (places d) j).drives
theorem qtV {q:Nat→Bool} {m n:Nat}:cntP q (m+n)=cntP q m+cntP (fun j=>q (m+j)) n:=by
 induction n with
 | zero=>rfl
 | succ n ih =>
  show cntP q (m+n)+(bif q (m+n) then 1 else 0)=cntP q m+(cntP (fun j=>q (m+j)) n+(bif q (m+n) then 1 else 0))
  rw [ih];omega
theorem qwJ {q:Nat→Bool} {n:Nat} {b:Bool} (h:1≤n) (h1:∀ j,j+1<n→q j=false) (h2:q (n-1)=b):cntP q n=bif b then 1 else 0:=by
 obtain ⟨m,rfl⟩:∃ m,n=m+1:=⟨n-1,by omega⟩
 show cntP q m+(bif q m then 1 else 0)=_
 rw [qnI.2 (fun j hj=>h1 j (by omega)),show m=m+1-1 by omega,h2,Ja]
theorem quR {d:qd} {k:Nat} (hs:smallD d):cntP (drvQ d (k:Int)) (places d).length=drvI d k d.Aa.length+drvP d k d.Aj.length:=by
 rw [qg3,qtV]
 congr 1
 ·have:∀ n,n≤d.Aa.length→cntP (drvQ d (k:Int)) (off d n)=drvI d k n:=by
   intro n
   induction n with
   | zero=>intro _;rfl
   | succ n ih =>
    intro hn
    rw [qkV,qtV,ih (by omega),qpo]
    congr 1
    have h2:=(hs.nx n (by omega)).1
    refine qwJ (by omega) (fun j hj=>?_) ?_
    ·show drvQ d _ (off d n+j)=false
     unfold drvQ
     rw [(qkw (by omega) (by omega)).2]
     unfold place1
     simp;omega
    ·show drvQ d _ (off d n+_)=_
     unfold drvQ
     rw [(qkw (by omega) (by omega)).2]
     unfold place1 lastN
     simp;omega
  exact this _ (je _)
 ·refine qqR (fun j hj=>?_)
  show drvQ d _ (off d _+j)=_
  unfold drvQ
  rw [(qsN hj).2]
  unfold place2
  exact Bool.and_comm _ _
theorem qvH {l:qn} {d:qd} (h:designB l d=true) {k:Nat} (hk:k<d.Ak.length):cntP (drvQ d (k:Int)) (places d).length=1:=by
 rw [quR (qad h)]
 unfold designB drvB at h
 simp only [jf] at h
 have:=qai.1 h.2.2.2 k hk
 rw [beq_iff_eq] at this
 omega
theorem qtG {l:qn} {d:qd} (h:designB l d=true) {i j:Nat} (hi:i<(places d).length) (hj:j<(places d).length) (he:(gt (places d) i).net=(gt (places d) j).net) (h1:(gt (places d) i).drives=true) (h2:(gt (places d) j).drives=true):i=j:=by
 obtain ⟨n0,n1⟩:=qmB h hi
 have e:=qeH n0
 have:=qvH h (k:=(gt (places d) i).net.toNat) (by omega)
 refine qt4 (Nat.le_of_eq this) hi hj ?_ ?_
 ·unfold drvQ;rw [←e,h1];simp
 ·unfold drvQ;rw [←e,h2,he];simp
theorem qzm {l:qn} {d:qd} (h:designB l d=true) {k:Int} (h0:0≤k) (h1:k<d.Ak.length):∃ j,j<(places d).length∧(gt (places d) j).net=k∧(gt (places d) j).drives=true:=by
 have e:=qeH h0
 have:=qvH h (k:=k.toNat) (by omega)
 have hp:decide (0<cntP (drvQ d ((k.toNat:Nat):Int)) (places d).length)=true:=by rw [this];rfl
 rw [qtS,jI,qmw] at hp
 obtain ⟨j,hj,hq⟩:=hp
 rw [Bool.not_eq_false',←e] at hq
 unfold drvQ at hq
 simp only [jf,beq_iff_eq] at hq
 exact ⟨j,hj,hq.1,hq.2⟩
def cellAt (b:qg) (i:Int):qw:=gt b.Av.Ar (gt b.Ab.Aa i.toNat).Bt.toNat
theorem qhk {l:qn} {d:qd} (h:designB l d=true) {i:Nat} (hi:i<d.Aa.length) :
  (0≤(gt d.Aa i).Bt∧(gt d.Aa i).Bt<l.Ar.length)∧(gt d.Aa i).Ak.length=(gt l.Ar (gt d.Aa i).Bt.toNat).Bd.length∧cellB (gt l.Ar (gt d.Aa i).Bt.toNat)=true:=by
 unfold designB libB at h
 simp only [jf] at h
 obtain ⟨⟨⟨hc,_⟩,_⟩,hI,_⟩:=h
 rw [qiL,qai] at hI hc
 have:=hI i hi
 unfold instB at this
 simp only [jf,qbd,beq_iff_eq] at this
 exact ⟨⟨this.1.1,by omega⟩,by omega,hc _ (by omega)⟩
theorem qnp {c:qw} (h:cellB c=true) {j:Nat} (hj:j<c.Au.length):(1≤(gt c.Au j).Be∧(gt c.Au j).Be≤5)∧(0≤(gt c.Au j).Bk∧(gt c.Au j).Bk<(c.Bd.length:Int)-1)∧(0≤(gt c.Au j).To∧(gt c.Au j).To≤(c.Bd.length:Int)-1)∧arcS c.Bd (gt c.Au j)=true:=by
 unfold cellB at h
 simp only [jf] at h
 obtain ⟨_,hp,⟨ha,_⟩,_,_,hk⟩:=h
 have:=qai.1 ha j hj
 rw [jf,qx1 hp (qsC hk)] at this
 have h1:=this.1
 refine ⟨qsK h1,?_⟩
 have h2:=h1
 unfold arcS at h2
 simp only [jf,qbd] at h2
 refine ⟨⟨h2.1.1.1,by omega⟩,h2.1.2,h1⟩
theorem qox {c:qw} (h:cellB c=true):c.Au.length≤8:=by
 unfold cellB at h
 simp only [jf,decide_eq_true_eq] at h
 exact h.2.2.1.2
theorem qaB {b:qg} (h:blockB b=true):designB b.Av b.Ab=true:=by
 unfold blockB at h;simp only [jf] at h;exact h.1.1
end Go.Fw
