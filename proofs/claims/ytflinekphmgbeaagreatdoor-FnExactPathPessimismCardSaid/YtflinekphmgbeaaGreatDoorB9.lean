/- By a program of mine (gen.py): for each function a plain function and the proof that the code computes it. -/
import Derived.Test.YtflinekphmgbeaaGreatDoorA2
import Derived.Test.YtflinekphmgbeaaGreatDoorFw32
open Option renaming bind_some → ja
open Nat renaming le_refl → jb, mul_le_mul_right → jm, le_of_ble_eq_true → jq, lt_of_lt_of_le → js, succ_mul → jF, zero_add → jU
open Bool renaming and_eq_true → jc, eq_iff_iff → jh, true_and → jw, not_eq_true' → jE, not_true → jW
open Go.Result renaming andThen_ok → jd
open List renaming length_append → je, getElem?_eq_getElem → jf, mem_cons_of_mem → jk, length_singleton → jn, getElem_mem → jo, append_assoc → jp, getElem?_append_left → jr, mem_cons_self → jt, take_succ_eq_append_getElem → ju, length_map → jv, getElem?_take → jx, getElem?_append_right → jy, getD_eq_getElem?_getD → jz, getElem?_toArray → jA, take_length → jB, eq_nil_of_length_eq_zero → jC, drop_eq_getElem_cons → jD, not_mem_nil → jH, length_replicate → jI, size_toArray → jJ, all_eq_true → jM, length_take → jN, getElem_of_mem → jO, map_append → jP, mem_cons → jR, ext_getElem → jT
open Go.Sem renaming run_bind → jg, run_pure → ji
open Int renaming toNat_natCast → jj, tdiv_eq_ediv_of_nonneg → jG, mul_nonneg → jL, mul_assoc → jQ, mul_le_mul → jS, le_refl → jV
open Array renaming getElem?_append_left → jK

namespace Go.Fw
open Go Go.Proofs
open Go.RowKit (Below)
set_option maxRecDepth 100000
set_option maxHeartbeats 1600000
variable {n:Nat} {w:World} {cs1 cs2 cs3 cs4 cs5 cs6 cs7 cs8 cs9:List Value}
def qdl (a_0:qB) (i1:Int) (y1:qP):Nat→Int→Option (Flow Bool Int)
 | 0,_=>none
 | n+1,i2 =>
  bif decide (i2<i1) then
   (idx a_0.Av i2).bind fun y2 =>
   bif (y2.Bf==y1.Bf) then
    (idx a_0.Av i2).bind fun y3 =>
    bif (y3.Bk==y1.Bk) then
     (idx a_0.Av i2).bind fun y4 =>
     bif (y4.To==y1.To) then some (.ret false) else
     qdl a_0 i1 y1 n (W64 (i2+1))
    else
     qdl a_0 i1 y1 n (W64 (i2+1))
   else
    qdl a_0 i1 y1 n (W64 (i2+1))
  else
   some (.nxt i2)
def qfc (a_0:qB):Nat→Int→Option (Flow Bool Int)
 | 0,_=>none
 | n+1,i3 =>
  bif decide (i3<(a_0.Br.length:Int)) then
   (idx a_0.Br i3).bind fun y5 =>
   (qar n y5 0 1).bind fun r6 =>
   bif (!r6) then some (.ret false) else
   qfc a_0 n (W64 (i3+1))
  else
   some (.nxt i3)
def qfs (a_0:qB):Nat→Int→Option (Flow Bool Int)
 | 0,_=>none
 | n+1,i1 =>
  bif decide (i1<(a_0.Av.length:Int)) then
   (idx a_0.Av i1).bind fun y1 =>
   (qkX n a_0 y1).bind fun r4 =>
   bif (!r4) then some (.ret false) else
   (qdl a_0 i1 y1 n 0).bind fun o=>match o with
   | .ret r=>some (.ret r)
   | .nxt _ =>
    qfs a_0 n (W64 (i1+1))
  else
   some (.nxt i1)
def qkT (n:Nat) (a_0:qB):Option Bool :=
 (qj5 n a_0).bind fun o=>match o with
  | (r2,r3) =>
   (
    bif (!r3) then some true else
    (qfA n a_0.Bb).bind fun r7 =>
    bif (!r7) then some true else
    bif decide ((a_0.Av.length:Int) > 8) then some true else
    (qar n a_0.Ca 0 100000).bind fun r8 =>
    bif (!r8) then some true else
    (qar n a_0.Bu 0 100000).bind fun r9 =>
    some (!r9)).bind fun b1 =>
   bif b1 then some false else
   (qfs a_0 n 0).bind fun o=>match o with
   | .ret r=>some r
   | .nxt _ =>
    (qiZ n a_0).bind fun r5 =>
    bif (a_0.Bf==1) then
     (qfc a_0 n 0).bind fun o=>match o with
     | .ret r=>some r
     | .nxt _ =>
      bif (r2==0) then
       (shlS 1 (IntKind.wrap .u64 (W64 ((a_0.Be.length:Int)-1)))).bind fun y6 =>
       some ((a_0.Br.length:Int)==y6)
      else
       some false
    else
     bif (a_0.Bf==2) then
      bif (r2==1) then
       (idx r5 1).bind fun y7 =>
       bif (y7==0) then
        (idx r5 2).bind fun y8 =>
        (idx r5 3).bind fun y9 =>
        bif (!((decide (y8 > 0))==(decide (y9 > 0)))) then some ((a_0.Br.length:Int)==0) else
        some false
       else
        some false
      else
       some false
     else
      bif (a_0.Bf==3) then
       bif (r2==1) then
        (idx r5 1).bind fun y10 =>
        bif decide (y10 > 0) then
         (idx r5 2).bind fun y11 =>
         bif decide (y11 > 0) then
          (idx r5 3).bind fun y12 =>
          bif (y12==0) then some ((a_0.Br.length:Int)==0) else
          some false
         else
          some false
        else
         some false
       else
        some false
      else
       some false
theorem qqE {a_0:qB} (ha1:GoT.R w (old w) a_0 cs1) {r:Bool} (hF:qkT n a_0=some r):RetV Tryz.prog 237 [GoT.v qB cs1] w r:=by
 obtain ⟨p1,k1,p2,k2,p3,k3,rfl,s1,s2,s3⟩:=qad ha1
 refine zV 182 Tryz.func237 rfl fun h=>zSR (qw h rfl rfl fun w1 bb1 h=>X1 5 0 h rfl ?_)
 obtain ⟨r1,hr1,hF⟩:=qc hF
 obtain ⟨r2,r3⟩:=r1
 refine qay (r2,r3) h (cB 260 rfl) (qpY (h.old ha1) hr1) rfl rfl rfl rfl fun w2 S1 us1 hv1 hr2=>?_
 obtain ⟨S2,us2,rfl,hv2,hr3⟩:=hv1.consI hr2
 obtain ⟨rfl,h⟩:=hv2.lastB hr3
 refine X0 8 rfl ?_
 obtain ⟨KF1,hKF1,o4,hF,hK4⟩:=bindE hF
 refine qbp (fun e w'=>∃ (b1:Bool),KF1 b1=some r∧e=[(1,.pointer (some ⟨bb1,0,none⟩)),(3,.int .i64 r2),(40,.bool b1)]∧SH w w' [Ch.box bb1 (qdT a_0 p1 p2 p3 k1 k2 k3) 168]) ?_ ?_
 ·refine X0 4 rfl (qi (t:=17) hF rfl ?_ ?_)<;>intro hF
  ·refine X0 24 rfl ?_
   obtain rfl:=qb hF
   exact rG ⟨_,hK4,rfl,h⟩ rfl
  refine X1 5 0 h rfl (zcB h hF qhA rfl fun r7 w18 h hF=>X0 4 rfl (qi (t:=23) hF rfl ?_ ?_))<;>intro hF
  ·refine X0 18 rfl ?_
   obtain rfl:=qb hF
   exact rG ⟨_,hK4,rfl,h⟩ rfl
  refine X1 10 0 h rfl (qi (t:=29) hF rfl ?_ ?_)<;>intro hF
  ·refine X0 12 rfl ?_
   obtain rfl:=qb hF
   exact rG ⟨_,hK4,rfl,h⟩ rfl
  refine X1 5 0 h rfl (zcB h hF qaf rfl fun r8 w19 h hF=>X0 4 rfl (qi (t:=35) hF rfl ?_ ?_))<;>intro hF
  ·refine X0 6 rfl ?_
   obtain rfl:=qb hF
   exact rG ⟨_,hK4,rfl,h⟩ rfl
  refine X1 5 0 h rfl (zcB h hF qaf rfl fun r9 w20 h hF=>X0 4 rfl ?_)
  obtain rfl:=qb hF
  exact rG ⟨_,hK4,rfl,h⟩ rfl
 rintro e4 w21 ⟨b1,hF,rfl,h⟩
 subst hKF1
 refine qh rfl hF ?_ ?_<;>intro hF
 ·exact X0 4 rfl (rb h hF rfl)
 refine X0 6 rfl ?_
 obtain ⟨o1,hF,hK1⟩:=qc hF
 refine qm (rL (fun m e w'=>∃ (i1:Int),qfs a_0 m i1=some o1∧e=[(1,.pointer (some ⟨bb1,0,none⟩)),(3,.int .i64 r2),(5,.int .i64 i1)]∧SH w w' [Ch.box bb1 (qdT a_0 p1 p2 p3 k1 k2 k3) 168]) n ⟨_,hF,rfl,h⟩ rfl ?_)
 rintro m1 e1 w3 ⟨i1,hF,rfl,h⟩
 rcases m1 with _|m1
 ·cases hF
 refine X1 9 0 h rfl (qh rfl hF ?_ ?_)<;>intro hF
 ·refine X1 8 0 h rfl ?_
  obtain ⟨y1,hy1,hF,he1,b2,_,q1,cs2,hp1,hq1,hr5,hc3⟩:=s2.ix hF
  obtain ⟨p4,k4,p5,k5,rfl,s4,s5⟩:=qag hr5
  refine zxe hp1 hq1 he1 rfl (zc 0 (hc3.below h.below) rfl (qj qa h rfl rfl rfl fun w4 bb2 h=>zs 0 h rfl fun w5 h=>X2 6 1 0 h rfl (zcB h hF (qqZ (h.old ha1) (qfe y1 (h.oldS s4) (h.oldS s5))) rfl fun r4 w6 h hF=>X0 2 rfl (qh rfl hF ?_ ?_))))<;>intro hF
  ·refine X0 4 rfl ?_
   obtain rfl:=qb hF;replace hF:=hK1
   exact rb h hF rfl
  refine X0 5 rfl ?_
  obtain ⟨o2,hF,hK2⟩:=qc hF
  refine qm (rL (fun m e w'=>∃ (i2:Int),qdl a_0 i1 y1 m i2=some o2∧e=[(1,.pointer (some ⟨bb1,0,none⟩)),(3,.int .i64 r2),(5,.int .i64 i1),(6,.pointer (some ⟨bb2,0,none⟩)),(7,.int .i64 i2)]∧SH w w' [Ch.box bb2 (qgw y1 p4 p5 k4 k5) 173,Ch.box bb1 (qdT a_0 p1 p2 p3 k1 k2 k3) 168]) m1 ⟨_,hF,rfl,h⟩ rfl ?_)
  rintro m2 e2 w7 ⟨i2,hF,rfl,h⟩
  rcases m2 with _|m2
  ·cases hF
  refine X0 7 rfl (qh rfl hF ?_ ?_)<;>intro hF
  ·refine X0 4 rfl (rD (Y1 2 1 h rfl ?_))
   refine zd1 rfl ?_
   obtain ⟨y2,hy2,hF,he2,b3,_,q2,cs3,hp2,hq2,hr7,hc6⟩:=s2.ix hF
   obtain ⟨p6,k6,p7,k7,rfl,s6,s7⟩:=qag hr7
   refine zdxe hp2 hq2 he2 rfl (zd1 rfl (zdc 0 (hc6.below h.below) rfl (Y1 2 0 h rfl ?_)))
   refine zd2 rfl (qaL (t:=71) hF rfl ?_ ?_)<;>intro hF
   ·refine Y1 4 1 h rfl ?_
    refine Y0 3 rfl ?_
    obtain ⟨y3,hy3,hF,he3,b4,_,q3,cs4,hp3,hq3,hr8,hc7⟩:=s2.ix hF
    obtain ⟨p8,k8,p9,k9,rfl,s8,s9⟩:=qag hr8
    refine zdxe hp3 hq3 he3 rfl (Y0 3 rfl (zdc 1 (hc7.below h.below) rfl (Y1 4 0 h rfl ?_)))
    refine Y0 4 rfl (qaL (t:=82) hF rfl ?_ ?_)<;>intro hF
    ·refine Y1 4 1 h rfl ?_
     refine Y0 3 rfl ?_
     obtain ⟨y4,hy4,hF,he4,b5,_,q4,cs5,hp4,hq4,hr9,hc8⟩:=s2.ix hF
     obtain ⟨p10,k10,p11,k11,rfl,s10,s11⟩:=qag hr9
     refine zdxe hp4 hq4 he4 rfl (Y0 3 rfl (zdc 2 (hc8.below h.below) rfl (Y1 4 0 h rfl ?_)))
     refine Y0 3 rfl (dN h fun w8 h=>qh rfl hF ?_ ?_)<;>intro hF
     ·refine X0 4 rfl ?_
      obtain rfl:=qb hF;replace hF:=hK2
      obtain rfl:=qb hF;replace hF:=hK1
      exact rb h hF rfl
     exact X0 7 rfl (rK ⟨_,hF,rfl,h⟩ rfl)
    exact Y0 10 rfl (dN h fun w9 h=>qbZ rfl rfl (X0 7 rfl (rK ⟨_,hF,rfl,h⟩ rfl)))
   exact Y0 21 rfl (dN h fun w10 h=>qbZ rfl rfl (X0 7 rfl (rK ⟨_,hF,rfl,h⟩ rfl)))
  refine qu rfl ?_
  obtain rfl:=qb hF;replace hF:=hK2
  refine X0 6 rfl ?_
  replace h:=h.pick [1] rfl
  exact rK ⟨_,hF,rfl,h⟩ rfl
 refine qu rfl ?_
 obtain rfl:=qb hF;replace hF:=hK1
 refine X1 3 0 h rfl (zcL h hF (qo9 (h.old ha1)) rfl fun r5 w11 S4 p12 k12 h hF=>X1 14 1 h rfl (qh rfl hF ?_ ?_))<;>intro hF
 ·refine X0 5 rfl ?_
  obtain ⟨o3,hF,hK3⟩:=qc hF
  refine qm ?_
  replace h:=h.pick [1] rfl
  refine rL (fun m e w'=>∃ (i3:Int),qfc a_0 m i3=some o3∧e=[(1,.pointer (some ⟨bb1,0,none⟩)),(3,.int .i64 r2),(9,.int .i64 i3)]∧SH w w' [Ch.box bb1 (qdT a_0 p1 p2 p3 k1 k2 k3) 168]) n ⟨_,hF,rfl,h⟩ rfl ?_
  rintro m3 e3 w12 ⟨i3,hF,rfl,h⟩
  rcases m3 with _|m3
  ·cases hF
  refine X1 9 0 h rfl (qh rfl hF ?_ ?_)<;>intro hF
  ·refine X1 8 0 h rfl ?_
   obtain ⟨y5,hy5,hF,he5,b6,_,q5,cs6,hp5,hq5,rfl,hc12⟩:=s3.ix hF
   refine zxe hp5 hq5 he5 rfl (zc 0 (hc12.below h.below) rfl (zcB h hF qaf rfl fun r6 w13 h hF=>X0 2 rfl (qh rfl hF ?_ ?_)))<;>intro hF
   ·refine X0 4 rfl ?_
    obtain rfl:=qb hF;replace hF:=hK3
    exact rb h hF rfl
   exact X0 7 rfl (rK ⟨_,hF,rfl,h⟩ rfl)
  refine qu rfl ?_
  obtain rfl:=qb hF;replace hF:=hK3
  refine X0 5 rfl (qi (t:=115) hF rfl ?_ ?_)<;>intro hF
  ·refine X2 17 0 0 h rfl ?_
   obtain ⟨y6,hx1,hF⟩:=qc hF
   obtain ⟨g1,hx1⟩:=qrJ hx1
   refine r_v (qyh g1 rfl rfl) rfl ?_
   rw [hx1]
   exact X0 5 rfl (rb h hF rfl)
  exact X0 13 rfl (rb h hF rfl)
 refine X0 5 rfl (qh rfl hF ?_ ?_)<;>intro hF
 ·refine qcJ (rD (zd3 rfl (qaL (t:=131) hF rfl ?_ ?_)))<;>intro hF
  ·refine Y0 3 rfl ?_
   obtain ⟨y7,hy6,hF,he6,b7,_,q6,cs7,hp6,hq6,rfl,hc15⟩:=(h.sl 0 rfl).1.ix hF
   refine zdx hp6 hq6 ⟨he6.1,qR he6.2.1 (h.sl 0 rfl).2⟩ rfl (Y0 1 rfl (zdc 0 hc15 rfl (Y0 4 rfl (qaL (t:=137) hF rfl ?_ ?_))))<;>intro hF
   ·refine Y0 3 rfl ?_
    obtain ⟨y8,hy7,hF,he7,b8,_,q7,cs8,hp7,hq7,rfl,hc16⟩:=(h.sl 0 rfl).1.ix hF
    refine zdx hp7 hq7 ⟨he7.1,qR he7.2.1 (h.sl 0 rfl).2⟩ rfl (Y0 1 rfl (zdc 0 hc16 rfl (Y0 5 rfl ?_)))
    obtain ⟨y9,hy8,hF,he8,b9,_,q8,cs9,hp8,hq8,rfl,hc17⟩:=(h.sl 0 rfl).1.ix hF
    refine zdx hp8 hq8 ⟨he8.1,qR he8.2.1 (h.sl 0 rfl).2⟩ rfl (Y0 1 rfl (zdc 0 hc17 rfl (Y0 6 rfl (qaL (t:=148) hF rfl ?_ ?_))))<;>intro hF
    ·refine Y1 4 1 h rfl ?_
     exact Y0 6 rfl (dN h fun w14 h=>rb h hF rfl)
    exact Y0 6 rfl (dN h fun w15 h=>rb h hF rfl)
   exact Y0 17 rfl (dN h fun w16 h=>rb h hF rfl)
  exact Y0 23 rfl (dN h fun w17 h=>rb h hF rfl)
 refine X0 5 rfl (qh rfl hF ?_ ?_)<;>intro hF
 ·refine X0 5 rfl (qi (t:=158) hF rfl ?_ ?_)<;>intro hF
  ·refine X0 3 rfl ?_
   obtain ⟨y10,hy9,hF,he9,b10,_,q9,cs10,hp9,hq9,rfl,hc19⟩:=(h.sl 0 rfl).1.ix hF
   refine zx hp9 hq9 ⟨he9.1,qR he9.2.1 (h.sl 0 rfl).2⟩ rfl (X0 1 rfl (zc 0 hc19 rfl (X0 4 rfl (qi (t:=164) hF rfl ?_ ?_))))<;>intro hF
   ·refine X0 3 rfl ?_
    obtain ⟨y11,hy10,hF,he10,b11,_,q10,cs11,hp10,hq10,rfl,hc20⟩:=(h.sl 0 rfl).1.ix hF
    refine zx hp10 hq10 ⟨he10.1,qR he10.2.1 (h.sl 0 rfl).2⟩ rfl (X0 1 rfl (zc 0 hc20 rfl (X0 4 rfl (qi (t:=170) hF rfl ?_ ?_))))<;>intro hF
    ·refine X0 3 rfl ?_
     obtain ⟨y12,hy11,hF,he11,b12,_,q11,cs12,hp11,hq11,rfl,hc21⟩:=(h.sl 0 rfl).1.ix hF
     refine zx hp11 hq11 ⟨he11.1,qR he11.2.1 (h.sl 0 rfl).2⟩ rfl (X0 1 rfl (zc 0 hc21 rfl (X0 4 rfl (qi (t:=176) hF rfl ?_ ?_))))<;>intro hF
     ·exact X1 11 1 h rfl (rb h hF rfl)
     exact X0 7 rfl (rb h hF rfl)
    exact X0 13 rfl (rb h hF rfl)
   exact X0 19 rfl (rb h hF rfl)
  exact X0 25 rfl (rb h hF rfl)
 exact X0 6 rfl (rb h hF rfl)
def qdt (l:qq) (i1:Int):Nat→Int→Option (Flow Bool Int)
 | 0,_=>none
 | n+1,i2 =>
  bif decide (i2<i1) then
   (idx l.Au i2).bind fun y2 =>
   (idx l.Au i1).bind fun y3 =>
   bif (y2.Bb.toList==y3.Bb.toList) then some (.ret false) else
   qdt l i1 n (W64 (i2+1))
  else
   some (.nxt i2)
def qdx (l:qq):Nat→Int→Option (Flow Bool Int)
 | 0,_=>none
 | n+1,i1 =>
  bif decide (i1<(l.Au.length:Int)) then
   (idx l.Au i1).bind fun y1 =>
   (qkT n y1).bind fun r1 =>
   bif (!r1) then some (.ret false) else
   (qdt l i1 n 0).bind fun o=>match o with
   | .ret r=>some (.ret r)
   | .nxt _ =>
    qdx l n (W64 (i1+1))
  else
   some (.nxt i1)
def qiv (n:Nat) (l:qq):Option Bool :=
 (qdx l n 0).bind fun o=>match o with
 | .ret r=>some r
 | .nxt _ =>
  some (decide ((l.Au.length:Int)≤8))
theorem qof {l:qq} (ha1:GoT.R w (old w) l cs1) {r:Bool} (hF:qiv n l=some r):RetV Tryz.prog 206 [GoT.v qq cs1] w r:=by
 obtain ⟨p1,k1,rfl,s1⟩:=qbz ha1
 refine zV 41 Tryz.func206 rfl fun h=>zSR (qw h rfl rfl fun w1 bb1 h=>X0 7 rfl ?_)
 obtain ⟨o1,hF,hK1⟩:=qc hF
 refine qm (rL (fun m e w'=>∃ (i1:Int),qdx l m i1=some o1∧e=[(1,.pointer (some ⟨bb1,0,none⟩)),(3,.int .i64 i1)]∧SH w w' [Ch.box bb1 [.slice p1 l.Au.length k1] 44]) n ⟨_,hF,rfl,h⟩ rfl ?_)
 rintro m1 e1 w2 ⟨i1,hF,rfl,h⟩
 rcases m1 with _|m1
 ·cases hF
 refine X1 9 0 h rfl (qh rfl hF ?_ ?_)<;>intro hF
 ·refine X1 9 0 h rfl ?_
  obtain ⟨y1,hy1,hF,he1,b1,_,q1,cs2,hp1,hq1,hr1,hc2⟩:=s1.ix hF
  obtain ⟨p2,k2,p3,k3,p4,k4,rfl,s2,s3,s4⟩:=qad hr1
  refine zxe hp1 hq1 he1 rfl (zc 0 (hc2.below h.below) rfl (zcB h hF (qqE (qkf y1 (h.oldS s2) (h.oldS s3) (h.oldS s4))) rfl fun r1 w3 h hF=>X0 2 rfl (qh rfl hF ?_ ?_)))<;>intro hF
  ·refine X0 4 rfl ?_
   obtain rfl:=qb hF;replace hF:=hK1
   exact rb h hF rfl
  refine X0 5 rfl ?_
  obtain ⟨o2,hF,hK2⟩:=qc hF
  refine qm (rL (fun m e w'=>∃ (i2:Int),qdt l i1 m i2=some o2∧e=[(1,.pointer (some ⟨bb1,0,none⟩)),(3,.int .i64 i1),(4,.int .i64 i2)]∧SH w w' [Ch.box bb1 [.slice p1 l.Au.length k1] 44]) m1 ⟨_,hF,rfl,h⟩ rfl ?_)
  rintro m2 e2 w4 ⟨i2,hF,rfl,h⟩
  rcases m2 with _|m2
  ·cases hF
  refine X0 7 rfl (qh rfl hF ?_ ?_)<;>intro hF
  ·refine X0 4 rfl (rD (Y1 2 0 h rfl ?_))
   refine zd1 rfl ?_
   obtain ⟨y2,hy2,hF,he2,b2,_,q2,cs3,hp2,hq2,hr3,hc5⟩:=s1.ix hF
   obtain ⟨p5,k5,p6,k6,p7,k7,rfl,s5,s6,s7⟩:=qad hr3
   refine zdxe hp2 hq2 he2 rfl (zd1 rfl (zdc 0 (hc5.below h.below) rfl (Y1 2 0 h rfl ?_)))
   refine zd1 rfl ?_
   obtain ⟨y3,hy3,hF,he3,b3,_,q3,cs4,hp3,hq3,hr4,hc6⟩:=s1.ix hF
   obtain ⟨p8,k8,p9,k9,p10,k10,rfl,s8,s9,s10⟩:=qad hr4
   refine zdxe hp3 hq3 he3 rfl (zd1 rfl (zdc 0 (hc6.below h.below) rfl (zd1 rfl (dN h fun w5 h=>qh rfl hF ?_ ?_))))<;>intro hF
   ·refine X0 4 rfl ?_
    obtain rfl:=qb hF;replace hF:=hK2
    obtain rfl:=qb hF;replace hF:=hK1
    exact rb h hF rfl
   exact X0 7 rfl (rK ⟨_,hF,rfl,h⟩ rfl)
  refine qu rfl ?_
  obtain rfl:=qb hF;replace hF:=hK2
  exact X0 6 rfl (rK ⟨_,hF,rfl,h⟩ rfl)
 refine qu rfl ?_
 obtain rfl:=qb hF;replace hF:=hK1
 exact X1 8 0 h rfl (rb h hF rfl)
def qd5 (a_1:qe) (y1:qp):Nat→Int→Option (Flow Bool Int)
 | 0,_=>none
 | n+1,i2 =>
  bif decide (i2<(y1.Ap.length:Int)) then
   (idx y1.Ap i2).bind fun y2 =>
   (qar n y2 0 (W64 ((a_1.Ap.length:Int)-1))).bind fun r1 =>
   bif (!r1) then some (.ret false) else
   qd5 a_1 y1 n (W64 (i2+1))
  else
   some (.nxt i2)
def qd7 (a_1:qe):Nat→Int→Option (Flow Bool Int)
 | 0,_=>none
 | n+1,i3 =>
  bif decide (i3<(a_1.Aj.length:Int)) then
   (idx a_1.Aj i3).bind fun y4 =>
   (qar n y4.Bv 1 2).bind fun r3 =>
   bif (!r3) then some (.ret false) else
   (idx a_1.Aj i3).bind fun y5 =>
   (qar n y5.Bx 0 (W64 ((a_1.Ap.length:Int)-1))).bind fun r4 =>
   bif (!r4) then some (.ret false) else
   qd7 a_1 n (W64 (i3+1))
  else
   some (.nxt i3)
def qef (a_0:qq) (a_1:qe):Nat→Int→Option (Flow Bool Int)
 | 0,_=>none
 | n+1,i1 =>
  bif decide (i1<(a_1.Aa.length:Int)) then
   (idx a_1.Aa i1).bind fun y1 =>
   (
    (qar n y1.Bs 0 (W64 ((a_0.Au.length:Int)-1))).bind fun r2 =>
    bif (!r2) then some true else
    (idx a_0.Au y1.Bs).bind fun y3 =>
    some ((y1.Ap.length:Int) != (y3.Be.length:Int))).bind fun b2 =>
   bif b2 then some (.ret false) else
   (qd5 a_1 y1 n 0).bind fun o=>match o with
   | .ret r=>some (.ret r)
   | .nxt _ =>
    qef a_0 a_1 n (W64 (i1+1))
  else
   some (.nxt i1)
def qi2 (n:Nat) (a_0:qq) (a_1:qe):Option Bool :=
 (qef a_0 a_1 n 0).bind fun o=>match o with
 | .ret r=>some r
 | .nxt _ =>
  (qd7 a_1 n 0).bind fun o=>match o with
  | .ret r=>some r
  | .nxt _ =>
   some true
theorem qoQ {a_0:qq} {a_1:qe} (ha1:GoT.R w (old w) a_0 cs1) (ha2:GoT.R w (old w) a_1 cs2) {r:Bool} (hF:qi2 n a_0 a_1=some r):RetV Tryz.prog 207 [GoT.v qq cs1,GoT.v qe cs2] w r:=by
 obtain ⟨p1,k1,rfl,s1⟩:=qbz ha1
 obtain ⟨p2,k2,p3,k3,p4,k4,rfl,s2,s3,s4⟩:=qav ha2
 refine zV 90 Tryz.func207 rfl fun h=>zSR (qw h rfl rfl fun w1 bb1 h=>qw h rfl rfl fun w2 bb2 h=>X1 14 0 h rfl ?_)
 obtain ⟨o1,hF,hK1⟩:=qc hF
 refine qm (rL (fun m e w'=>∃ (i1:Int),qef a_0 a_1 m i1=some o1∧e=[(2,.pointer (some ⟨bb1,0,none⟩)),(3,.pointer (some ⟨bb2,0,none⟩)),(5,.int .i64 (a_1.Ap.length:Int)),(6,.int .i64 i1)]∧SH w w' [Ch.box bb2 (qaK a_1 p2 p3 p4 k2 k3 k4) 48,Ch.box bb1 [.slice p1 a_0.Au.length k1] 44]) n ⟨_,hF,rfl,h⟩ rfl ?_)
 rintro m1 e1 w3 ⟨i1,hF,rfl,h⟩
 rcases m1 with _|m1
 ·cases hF
 refine X1 9 0 h rfl (qh rfl hF ?_ ?_)<;>intro hF
 ·refine X1 8 0 h rfl ?_
  obtain ⟨y1,hy1,hF,he1,b1,_,q1,cs3,hp1,hq1,hr1,hc2⟩:=s2.ix hF
  obtain ⟨p5,k5,rfl,s5⟩:=qN hr1
  refine zxe hp1 hq1 he1 rfl (zc 0 (hc2.below h.below) rfl (qj qa h rfl rfl rfl fun w4 bb3 h=>zs 0 h rfl fun w5 h=>zNSS ?_))
  obtain ⟨KF1,hKF1,o3,hF,hK3⟩:=bindE hF
  refine qbp (fun e w'=>∃ (b2:Bool),KF1 b2=some o1∧e=[(2,.pointer (some ⟨bb1,0,none⟩)),(3,.pointer (some ⟨bb2,0,none⟩)),(5,.int .i64 (a_1.Ap.length:Int)),(6,.int .i64 i1),(7,.pointer (some ⟨bb3,0,none⟩)),(46,.bool b2)]∧SH w w' [Ch.box bb3 (qjq y1 p5 k5) 170,Ch.box bb2 (qaK a_1 p2 p3 p4 k2 k3 k4) 48,Ch.box bb1 [.slice p1 a_0.Au.length k1] 44]) ?_ ?_
  ·refine rD (Y1 2 0 h rfl ?_)
   refine Y1 2 2 h rfl ?_
   refine zd2 rfl ?_
   obtain ⟨r2,hr4,hF⟩:=qc hF
   refine qaQ r2 (vsB _) (cB 63 rfl) (fun _ hb=>qaf  hr4) rfl rfl rfl rfl (zd2 rfl (qaL (t:=33) hF rfl ?_ ?_))<;>intro hF
   ·refine Y0 13 rfl (dN h fun w8 h=>?_)
    obtain rfl:=qb hF
    exact rG ⟨_,hK3,rfl,h⟩ rfl
   refine Y1 4 0 h rfl ?_
   refine Y1 6 2 h rfl ?_
   refine Y1 4 0 h rfl ?_
   refine Y0 1 rfl ?_
   obtain ⟨y3,hy3,hF,he3,b4,_,q3,cs5,hp3,hq3,hr5,hc7⟩:=s1.ix hF
   obtain ⟨p6,k6,p7,k7,p8,k8,rfl,s6,s7,s8⟩:=qad hr5
   refine zdxe hp3 hq3 he3 rfl (Y0 3 rfl (zdc 2 (hc7.below h.below) rfl (Y0 5 rfl (dN h fun w9 h=>?_))))
   obtain rfl:=qb hF
   exact rG ⟨_,hK3,rfl,h⟩ rfl
  rintro e3 w10 ⟨b2,hF,rfl,h⟩
  subst hKF1
  refine qh rfl hF ?_ ?_<;>intro hF
  ·refine X0 4 rfl ?_
   obtain rfl:=qb hF;replace hF:=hK1
   exact rb h hF rfl
  refine X0 5 rfl ?_
  obtain ⟨o2,hF,hK2⟩:=qc hF
  refine qm (rL (fun m e w'=>∃ (i2:Int),qd5 a_1 y1 m i2=some o2∧e=[(2,.pointer (some ⟨bb1,0,none⟩)),(3,.pointer (some ⟨bb2,0,none⟩)),(5,.int .i64 (a_1.Ap.length:Int)),(6,.int .i64 i1),(7,.pointer (some ⟨bb3,0,none⟩)),(8,.int .i64 i2)]∧SH w w' [Ch.box bb3 (qjq y1 p5 k5) 170,Ch.box bb2 (qaK a_1 p2 p3 p4 k2 k3 k4) 48,Ch.box bb1 [.slice p1 a_0.Au.length k1] 44]) m1 ⟨_,hF,rfl,h⟩ rfl ?_)
  rintro m2 e2 w6 ⟨i2,hF,rfl,h⟩
  rcases m2 with _|m2
  ·cases hF
  refine X1 9 0 h rfl (qh rfl hF ?_ ?_)<;>intro hF
  ·refine X1 8 0 h rfl ?_
   obtain ⟨y2,hy2,hF,he2,b3,_,q2,cs4,hp2,hq2,rfl,hc5⟩:=s5.ix hF
   refine zxe hp2 hq2 he2 rfl (zc 0 (hc5.below h.below) rfl (zp2 rfl (zcB h hF qaf rfl fun r1 w7 h hF=>X0 2 rfl (qh rfl hF ?_ ?_))))<;>intro hF
   ·refine X0 4 rfl ?_
    obtain rfl:=qb hF;replace hF:=hK2
    obtain rfl:=qb hF;replace hF:=hK1
    exact rb h hF rfl
   exact X0 7 rfl (rK ⟨_,hF,rfl,h⟩ rfl)
  refine qu rfl ?_
  obtain rfl:=qb hF;replace hF:=hK2
  refine X0 6 rfl ?_
  replace h:=h.pick [1,2] rfl
  exact rK ⟨_,hF,rfl,h⟩ rfl
 refine qu rfl ?_
 obtain rfl:=qb hF;replace hF:=hK1
 refine X0 5 rfl ?_
 obtain ⟨o4,hF,hK4⟩:=qc hF
 refine qm ?_
 replace h:=h.pick [0] rfl
 refine rL (fun m e w'=>∃ (i3:Int),qd7 a_1 m i3=some o4∧e=[(3,.pointer (some ⟨bb2,0,none⟩)),(5,.int .i64 (a_1.Ap.length:Int)),(9,.int .i64 i3)]∧SH w w' [Ch.box bb2 (qaK a_1 p2 p3 p4 k2 k3 k4) 48]) n ⟨_,hF,rfl,h⟩ rfl ?_
 rintro m3 e4 w11 ⟨i3,hF,rfl,h⟩
 rcases m3 with _|m3
 ·cases hF
 refine X1 9 0 h rfl (qh rfl hF ?_ ?_)<;>intro hF
 ·refine X1 8 0 h rfl ?_
  obtain ⟨y4,hy4,hF,he4,b5,_,q4,cs6,hp4,hq4,hr6,hc9⟩:=s4.ix hF
  obtain rfl:=qbj hr6
  refine zxe hp4 hq4 he4 rfl (zp1 rfl (zc 1 (hc9.below h.below) rfl (zcB h hF qaf rfl fun r3 w12 h hF=>zp2 rfl (qi (t:=78) hF rfl ?_ ?_))))<;>intro hF
  ·refine X0 12 rfl (qbX rfl rfl (X0 4 rfl ?_))
   obtain rfl:=qb hF;replace hF:=hK4
   exact rb h hF rfl
  refine X1 7 0 h rfl ?_
  obtain ⟨y5,hy5,hF,he5,b6,_,q5,cs7,hp5,hq5,hr8,hc10⟩:=s4.ix hF
  obtain rfl:=qbj hr8
  refine zxe hp5 hq5 he5 rfl (X0 3 rfl (zc 2 (hc10.below h.below) rfl (X0 5 rfl (zcB h hF qaf rfl fun r4 w13 h hF=>X0 4 rfl (qh rfl hF ?_ ?_)))))<;>intro hF
  ·refine X0 4 rfl ?_
   obtain rfl:=qb hF;replace hF:=hK4
   exact rb h hF rfl
  exact X0 7 rfl (rK ⟨_,hF,rfl,h⟩ rfl)
 refine qu rfl ?_
 obtain rfl:=qb hF;replace hF:=hK4
 exact X0 4 rfl (rb h hF rfl)
def qec (list:(List ByteArray)) (i1:Int):Nat→Int→Option (Flow Bool Int)
 | 0,_=>none
 | n+1,i2 =>
  bif decide (i2<i1) then
   (idx list i2).bind fun y2 =>
   (idx list i1).bind fun y3 =>
   bif (y2.toList==y3.toList) then some (.ret false) else
   qec list i1 n (W64 (i2+1))
  else
   some (.nxt i2)
def qd3 (list:(List ByteArray)):Nat→Int→Option (Flow Bool Int)
 | 0,_=>none
 | n+1,i1 =>
  bif decide (i1<(list.length:Int)) then
   (idx list i1).bind fun y1 =>
   (qfA n y1).bind fun r1 =>
   bif (!r1) then some (.ret false) else
   (qec list i1 n 0).bind fun o=>match o with
   | .ret r=>some (.ret r)
   | .nxt _ =>
    qd3 list n (W64 (i1+1))
  else
   some (.nxt i1)
def qgb (n:Nat) (list:(List ByteArray)):Option Bool :=
 (qd3 list n 0).bind fun o=>match o with
 | .ret r=>some r
 | .nxt _ =>
  some true
theorem qiR {list:(List ByteArray)} (ha1:GoT.R w (old w) list cs1) {r:Bool} (hF:qgb n list=some r):RetV Tryz.prog 208 [GoT.v (List ByteArray) cs1] w r:=by
 obtain ⟨p1,k1,rfl,s1⟩:=ha1
 refine zV 31 Tryz.func208 rfl fun h=>X0 9 rfl ?_
 obtain ⟨o1,hF,hK1⟩:=qc hF
 refine qm (rL (fun m e w'=>∃ (i1:Int),qd3 list m i1=some o1∧e=[(0,.slice p1 list.length k1),(3,.int .i64 i1)]∧SH w w' []) n ⟨_,hF,rfl,h⟩ rfl ?_)
 rintro m1 e1 w1 ⟨i1,hF,rfl,h⟩
 rcases m1 with _|m1
 ·cases hF
 refine X0 8 rfl (qh rfl hF ?_ ?_)<;>intro hF
 ·refine X0 8 rfl ?_
  obtain ⟨y1,hy1,hF,he1,b1,_,q1,cs2,hp1,hq1,rfl,hc2⟩:=s1.ix hF
  refine zxe hp1 hq1 he1 rfl (zc 0 (hc2.below h.below) rfl (zcB h hF qhA rfl fun r1 w2 h hF=>X0 2 rfl (qh rfl hF ?_ ?_)))<;>intro hF
  ·refine X0 4 rfl ?_
   obtain rfl:=qb hF;replace hF:=hK1
   exact rb h hF rfl
  refine X0 5 rfl ?_
  obtain ⟨o2,hF,hK2⟩:=qc hF
  refine qm (rL (fun m e w'=>∃ (i2:Int),qec list i1 m i2=some o2∧e=[(0,.slice p1 list.length k1),(3,.int .i64 i1),(4,.int .i64 i2)]∧SH w w' []) m1 ⟨_,hF,rfl,h⟩ rfl ?_)
  rintro m2 e2 w3 ⟨i2,hF,rfl,h⟩
  rcases m2 with _|m2
  ·cases hF
  refine X0 7 rfl (qh rfl hF ?_ ?_)<;>intro hF
  ·refine X0 4 rfl (rD (zd2 rfl ?_))
   obtain ⟨y2,hy2,hF,he2,b2,_,q2,cs3,hp2,hq2,rfl,hc5⟩:=s1.ix hF
   refine zdxe hp2 hq2 he2 rfl (zdc 0 (hc5.below h.below) rfl (zd2 rfl ?_))
   obtain ⟨y3,hy3,hF,he3,b3,_,q3,cs4,hp3,hq3,rfl,hc6⟩:=s1.ix hF
   refine zdxe hp3 hq3 he3 rfl (zdc 0 (hc6.below h.below) rfl (zd1 rfl (dN h fun w4 h=>qh rfl hF ?_ ?_)))<;>intro hF
   ·refine X0 4 rfl ?_
    obtain rfl:=qb hF;replace hF:=hK2
    obtain rfl:=qb hF;replace hF:=hK1
    exact rb h hF rfl
   exact X0 7 rfl (rK ⟨_,hF,rfl,h⟩ rfl)
  refine qu rfl ?_
  obtain rfl:=qb hF;replace hF:=hK2
  exact X0 6 rfl (rK ⟨_,hF,rfl,h⟩ rfl)
 refine qu rfl ?_
 obtain rfl:=qb hF;replace hF:=hK1
 exact X0 4 rfl (rb h hF rfl)
def qeb (x5:(List Int)) (x7:(List Int)):Nat→Int→Option (Flow Bool Int)
 | 0,_=>none
 | n+1,i5 =>
  bif decide (i5<(x5.length:Int)) then
   (idx x7 i5).bind fun y11 =>
   bif (y11 != 1) then some (.ret false) else
   qeb x5 x7 n (W64 (i5+1))
  else
   some (.nxt i5)
def qcs (a_1:qe):Nat→(List Int)→Int→Option ((List Int) × Int)
 | 0,_,_=>none
 | n+1,x7,i4 =>
  bif decide (i4<(a_1.Aj.length:Int)) then
   (idx a_1.Aj i4).bind fun y7 =>
   bif (y7.Bv==1) then
    (idx a_1.Aj i4).bind fun y8 =>
    (idx x7 y8.Bx).bind fun y9 =>
    (idx x7 y8.Bx).bind fun _ =>
    qcs a_1 n (setS x7 y8.Bx (W64 (y9+1))) (W64 (i4+1))
   else
    qcs a_1 n x7 (W64 (i4+1))
  else
   some (x7,i4)
def qda (a_1:qe):Nat→(List Int)→Int→Option ((List Int) × Int)
 | 0,_,_=>none
 | n+1,x6,i3 =>
  bif decide (i3<(a_1.Aa.length:Int)) then
   (idx a_1.Aa i3).bind fun y3 =>
   (idx y3.Ap (W64 ((y3.Ap.length:Int)-1))).bind fun y4 =>
   (idx x6 y4).bind fun y5 =>
   (idx x6 y4).bind fun _ =>
   qda a_1 n (setS x6 y4 (W64 (y5+1))) (W64 (i3+1))
  else
   some (x6,i3)
def qdh (a_1:qe):Nat→(List ByteArray)→Int→Option ((List ByteArray) × Int)
 | 0,_,_=>none
 | n+1,x3,i2 =>
  bif decide (i2<(a_1.Aj.length:Int)) then
   (idx a_1.Aj i2).bind fun y2 =>
   (appS x3 ([y2.Bb]:List ByteArray)).bind fun x4 =>
   qdh a_1 n x4 (W64 (i2+1))
  else
   some (x3,i2)
def qde (a_1:qe):Nat→(List ByteArray)→Int→Option ((List ByteArray) × Int)
 | 0,_,_=>none
 | n+1,x1,i1 =>
  bif decide (i1<(a_1.Aa.length:Int)) then
   (idx a_1.Aa i1).bind fun y1 =>
   (appS x1 ([y1.Bb]:List ByteArray)).bind fun x2 =>
   qde a_1 n x2 (W64 (i1+1))
  else
   some (x1,i1)
def qi9 (n:Nat) (a_0:qq) (a_1:qe):Option Bool :=
 (
  (qiv n a_0).bind fun r4 =>
  bif (!r4) then some true else
  bif decide ((a_1.Aa.length:Int) > 14) then some true else
  bif decide ((a_1.Ap.length:Int) > 30) then some true else
  bif decide ((a_1.Aj.length:Int) > 8) then some true else
  (qi2 n a_0 a_1).bind fun r5 =>
  some (!r5)).bind fun b1 =>
 bif b1 then some false else
 (qde a_1 n ([]:List ByteArray) 0).bind fun o=>match o with
 | (x1,_) =>
  (qdh a_1 n ([]:List ByteArray) 0).bind fun o=>match o with
  | (x3,_) =>
   (
    (qgb n x1).bind fun r1 =>
    bif (!r1) then some true else
    (qgb n x3).bind fun r2 =>
    bif (!r2) then some true else
    (qgb n a_1.Ap).bind fun r3 =>
    some (!r3)).bind fun b4 =>
   bif b4 then some false else
   (mkS (a_1.Ap.length:Int) (0:Int)).bind fun x5 =>
   (qda a_1 n x5 0).bind fun o=>match o with
   | (x6,_) =>
    (qcs a_1 n x6 0).bind fun o=>match o with
    | (x7,_) =>
     (qeb x5 x7 n 0).bind fun o=>match o with
     | .ret r=>some r
     | .nxt _ =>
      some true
theorem qo7 {a_0:qq} {a_1:qe} (ha1:GoT.R w (old w) a_0 cs1) (ha2:GoT.R w (old w) a_1 cs2) {r:Bool} (hF:qi9 n a_0 a_1=some r):RetV Tryz.prog 177 [GoT.v qq cs1,GoT.v qe cs2] w r:=by
 obtain ⟨p1,k1,rfl,s1⟩:=qbz ha1
 obtain ⟨p2,k2,p3,k3,p4,k4,rfl,s2,s3,s4⟩:=qav ha2
 refine zV 153 Tryz.func177 rfl fun h=>zSR (qw h rfl rfl fun w1 bb1 h=>qw h rfl rfl fun w2 bb2 h=>X0 4 rfl ?_)
 obtain ⟨KF2,hKF2,o7,hF,hK7⟩:=bindE hF
 refine qbp (fun e w'=>∃ (b1:Bool),KF2 b1=some r∧e=[(3,.pointer (some ⟨bb2,0,none⟩)),(40,.bool b1)]∧SH w w' [Ch.box bb2 (qaK a_1 p2 p3 p4 k2 k3 k4) 48]) ?_ ?_
 ·refine X1 2 1 h rfl (zcB h hF (qof (h.old ha1)) rfl fun r4 w21 h hF=>zp2 rfl (qi (t:=17) hF rfl ?_ ?_))<;>intro hF
  ·refine X0 24 rfl ?_
   replace h:=h.pick [0] rfl
   obtain rfl:=qb hF
   exact rG ⟨_,hK7,rfl,h⟩ rfl
  refine X1 10 0 h rfl (qi (t:=23) hF rfl ?_ ?_)<;>intro hF
  ·refine X0 18 rfl ?_
   replace h:=h.pick [0] rfl
   obtain rfl:=qb hF
   exact rG ⟨_,hK7,rfl,h⟩ rfl
  refine X1 10 0 h rfl (qi (t:=29) hF rfl ?_ ?_)<;>intro hF
  ·refine X0 12 rfl ?_
   replace h:=h.pick [0] rfl
   obtain rfl:=qb hF
   exact rG ⟨_,hK7,rfl,h⟩ rfl
  refine X1 10 0 h rfl (qi (t:=35) hF rfl ?_ ?_)<;>intro hF
  ·refine X0 6 rfl ?_
   replace h:=h.pick [0] rfl
   obtain rfl:=qb hF
   exact rG ⟨_,hK7,rfl,h⟩ rfl
  refine X2 5 1 0 h rfl (zcB h hF (qoQ (h.old ha1) (h.old ha2)) rfl fun r5 w22 h hF=>X0 4 rfl ?_)
  replace h:=h.pick [0] rfl
  obtain rfl:=qb hF
  exact rG ⟨_,hK7,rfl,h⟩ rfl
 rintro e7 w23 ⟨b1,hF,rfl,h⟩
 subst hKF2
 refine qh rfl hF ?_ ?_<;>intro hF
 ·exact X0 4 rfl (rb h hF rfl)
 refine zKSR (qI qa [] _ ([]:List ByteArray) h rfl rfl rfl rfl rfl rfl rfl rfl rfl trivial rfl fun w3 p5 S1 h=>X0 7 rfl ?_)
 obtain ⟨o1,hF,hK1⟩:=qc hF
 refine qm (rL (fun m e w'=>∃ (S2:Nat→Prop) (p6:Option Addr) (ln1:Nat) (k5:Nat) (x1:(List ByteArray)) (i1:Int),qde a_1 m x1 i1=some o1∧e=[(3,.pointer (some ⟨bb2,0,none⟩)),(5,.slice p6 ln1 k5),(6,.int .i64 i1)]∧SH w w' [Ch.own S2 (x1:List ByteArray) [.slice p6 ln1 k5],Ch.box bb2 (qaK a_1 p2 p3 p4 k2 k3 k4) 48]) n ⟨_,_,_,_,_,_,hF,rfl,h⟩ rfl ?_)
 rintro m1 e1 w4 ⟨S2,p6,ln1,k5,x1,i1,hF,rfl,h⟩
 obtain rfl:=(h.sl 0 rfl).2
 rcases m1 with _|m1
 ·cases hF
 refine X1 9 1 h rfl (qh rfl hF ?_ ?_)<;>intro hF
 ·refine X1 8 1 h rfl ?_
  obtain ⟨y1,hy1,hF,he1,b2,_,q1,cs3,hp1,hq1,hr1,hc3⟩:=s2.ix hF
  obtain ⟨p7,k6,rfl,s5⟩:=qN hr1
  refine zxe hp1 hq1 he1 rfl (zp1 rfl (zc 0 (hc3.below h.below) rfl (qI qa [.tmp 55] _ ([y1.Bb]:List ByteArray) h rfl rfl rfl rfl rfl rfl rfl rfl rfl ⟨rfl,trivial⟩ rfl fun w5 p8 S3 h=>?_)))
  obtain ⟨x2,hx1,hF⟩:=qc hF
  obtain ⟨g1,hx1⟩:=qat hx1
  refine qct qa 1 h rfl (h.sl 0 rfl).1 (h.sl 0 rfl).2 rfl rfl rfl rfl rfl rfl rfl rfl rfl g1 hx1 rfl fun w6 p9 k7 S4 h=>X0 8 rfl ?_
  replace h:=h.pick [1,2] rfl
  exact rK ⟨_,_,_,_,_,_,hF,rfl,h⟩ rfl
 refine qu rfl ?_
 obtain rfl:=qb hF;replace hF:=hK1
 refine zSR (qI qa [] _ ([]:List ByteArray) h rfl rfl rfl rfl rfl rfl rfl rfl rfl trivial rfl fun w7 p10 S5 h=>X0 7 rfl ?_)
 obtain ⟨o2,hF,hK2⟩:=qc hF
 refine qm (rL (fun m e w'=>∃ (S6:Nat→Prop) (p11:Option Addr) (ln2:Nat) (k8:Nat) (x3:(List ByteArray)) (i2:Int),qdh a_1 m x3 i2=some o2∧e=[(3,.pointer (some ⟨bb2,0,none⟩)),(5,.slice p6 x1.length k5),(7,.slice p11 ln2 k8),(8,.int .i64 i2)]∧SH w w' [Ch.own S6 (x3:List ByteArray) [.slice p11 ln2 k8],Ch.own S2 (x1:List ByteArray) [.slice p6 x1.length k5],Ch.box bb2 (qaK a_1 p2 p3 p4 k2 k3 k4) 48]) n ⟨_,_,_,_,_,_,hF,rfl,h⟩ rfl ?_)
 rintro m2 e2 w8 ⟨S6,p11,ln2,k8,x3,i2,hF,rfl,h⟩
 obtain rfl:=(h.sl 0 rfl).2
 rcases m2 with _|m2
 ·cases hF
 refine X1 9 2 h rfl (qh rfl hF ?_ ?_)<;>intro hF
 ·refine X1 8 2 h rfl ?_
  obtain ⟨y2,hy2,hF,he2,b3,_,q2,cs4,hp2,hq2,hr2,hc5⟩:=s4.ix hF
  obtain rfl:=qbj hr2
  refine zxe hp2 hq2 he2 rfl (zp1 rfl (zc 0 (hc5.below h.below) rfl (qI qa [.tmp 72] _ ([y2.Bb]:List ByteArray) h rfl rfl rfl rfl rfl rfl rfl rfl rfl ⟨rfl,trivial⟩ rfl fun w9 p12 S7 h=>?_)))
  obtain ⟨x4,hx2,hF⟩:=qc hF
  obtain ⟨g2,hx2⟩:=qat hx2
  refine qct qa 1 h rfl (h.sl 0 rfl).1 (h.sl 0 rfl).2 rfl rfl rfl rfl rfl rfl rfl rfl rfl g2 hx2 rfl fun w10 p13 k9 S8 h=>X0 8 rfl ?_
  replace h:=h.pick [1,2,3] rfl
  exact rK ⟨_,_,_,_,_,_,hF,rfl,h⟩ rfl
 refine qu rfl ?_
 obtain rfl:=qb hF;replace hF:=hK2
 refine zSS ?_
 obtain ⟨KF1,hKF1,o6,hF,hK6⟩:=bindE hF
 refine qbp (fun e w'=>∃ (b4:Bool),KF1 b4=some r∧e=[(3,.pointer (some ⟨bb2,0,none⟩)),(88,.bool b4)]∧SH w w' [Ch.box bb2 (qaK a_1 p2 p3 p4 k2 k3 k4) 48]) ?_ ?_
 ·refine X0 2 rfl (zcB h hF (qiR (h.own 1 rfl)) rfl fun r1 w17 h hF=>zp2 rfl (qi (t:=78) hF rfl ?_ ?_))<;>intro hF
  ·refine X0 11 rfl ?_
   replace h:=h.pick [2] rfl
   obtain rfl:=qb hF
   exact rG ⟨_,hK6,rfl,h⟩ rfl
  refine X0 3 rfl (zcB h hF (qiR (h.own 0 rfl)) rfl fun r2 w18 h hF=>X0 4 rfl (qi (t:=83) hF rfl ?_ ?_))<;>intro hF
  ·refine X0 6 rfl ?_
   replace h:=h.pick [2] rfl
   obtain rfl:=qb hF
   exact rG ⟨_,hK6,rfl,h⟩ rfl
  refine X1 5 2 h rfl (zcB h hF (qiR ⟨_,_,rfl,(h.oldS s3)⟩) rfl fun r3 w19 h hF=>X0 4 rfl ?_)
  replace h:=h.pick [2] rfl
  obtain rfl:=qb hF
  exact rG ⟨_,hK6,rfl,h⟩ rfl
 rintro e6 w20 ⟨b4,hF,rfl,h⟩
 subst hKF1
 refine qh rfl hF ?_ ?_<;>intro hF
 ·exact X0 4 rfl (rb h hF rfl)
 refine X1 6 0 h rfl ?_
 obtain ⟨x5,hx3,hF⟩:=qc hF
 obtain ⟨g3,g4,hx3⟩:=qO hx3
 refine qaj qa Int h rfl rfl rfl rfl rfl rfl rfl rfl rfl g3 g4 hx3 rfl fun w11 S9 p14 h=>X0 7 rfl ?_
 obtain ⟨o3,hF,hK3⟩:=qc hF
 refine qm (rL (fun m e w'=>∃ (x6:(List Int)) (i3:Int),qda a_1 m x6 i3=some o3∧e=[(3,.pointer (some ⟨bb2,0,none⟩)),(9,.slice p14 x5.length x5.length),(10,.int .i64 i3)]∧SH w w' [Ch.own S9 (x6:List Int) [.slice p14 x5.length x5.length],Ch.box bb2 (qaK a_1 p2 p3 p4 k2 k3 k4) 48]) n ⟨_,_,hF,rfl,h⟩ rfl ?_)
 rintro m3 e3 w12 ⟨x6,i3,hF,rfl,h⟩
 rcases m3 with _|m3
 ·cases hF
 refine X1 9 1 h rfl (qh rfl hF ?_ ?_)<;>intro hF
 ·refine X1 8 1 h rfl ?_
  obtain ⟨y3,hy3,hF,he3,b5,_,q3,cs5,hp3,hq3,hr3,hc8⟩:=s2.ix hF
  obtain ⟨p15,k10,rfl,s6⟩:=qN hr3
  refine zxe hp3 hq3 he3 rfl (zp1 rfl (zc 2 (hc8.below h.below) rfl (X0 8 rfl ?_)))
  obtain ⟨y4,hy4,hF,he4,b6,_,q4,cs6,hp4,hq4,rfl,hc9⟩:=s6.ix hF
  refine zxe hp4 hq4 he4 rfl (zc 0 (hc9.below h.below) rfl ?_)
  obtain ⟨y5,hy5,hF,he5,b7,_,q5,cs7,hp5,hq5,rfl,hc10⟩:=(h.sl 0 rfl).1.ix hF
  refine zx hp5 hq5 ⟨he5.1,qR he5.2.1 (h.sl 0 rfl).2⟩ rfl (zc 0 hc10 rfl (zp1 rfl ?_))
  obtain ⟨y6,hy6,hF,he6,b8,_,q6,cs8,hp6,hq6,rfl,hc11⟩:=(h.sl 0 rfl).1.ix hF
  exact zx hp6 hq6 ⟨he6.1,qR he6.2.1 (h.sl 0 rfl).2⟩ rfl (qbx qa 0 0 (W64 (y5+1)) h rfl hy6 hp6 hq6 rfl hc11 rfl rfl rfl rfl rfl rfl rfl fun w13 h=>X0 7 rfl (rK ⟨_,_,hF,rfl,h⟩ rfl))
 refine qu rfl ?_
 obtain rfl:=qb hF;replace hF:=hK3
 refine X0 5 rfl ?_
 obtain ⟨o4,hF,hK4⟩:=qc hF
 refine qm (rL (fun m e w'=>∃ (x7:(List Int)) (i4:Int),qcs a_1 m x7 i4=some o4∧e=[(3,.pointer (some ⟨bb2,0,none⟩)),(9,.slice p14 x5.length x5.length),(12,.int .i64 i4)]∧SH w w' [Ch.own S9 (x7:List Int) [.slice p14 x5.length x5.length],Ch.box bb2 (qaK a_1 p2 p3 p4 k2 k3 k4) 48]) n ⟨_,_,hF,rfl,h⟩ rfl ?_)
 rintro m4 e4 w14 ⟨x7,i4,hF,rfl,h⟩
 rcases m4 with _|m4
 ·cases hF
 refine X1 9 1 h rfl (qh rfl hF ?_ ?_)<;>intro hF
 ·refine X1 8 1 h rfl ?_
  obtain ⟨y7,hy7,hF,he7,b9,_,q7,cs9,hp7,hq7,hr7,hc13⟩:=s4.ix hF
  obtain rfl:=qbj hr7
  refine zxe hp7 hq7 he7 rfl (zp1 rfl (zc 1 (hc13.below h.below) rfl (X0 2 rfl (qh rfl hF ?_ ?_))))<;>intro hF
  ·refine X1 5 1 h rfl ?_
   obtain ⟨y8,hy8,hF,he8,b10,_,q8,cs10,hp8,hq8,hr8,hc15⟩:=s4.ix hF
   obtain rfl:=qbj hr8
   refine zxe hp8 hq8 he8 rfl (zp1 rfl (zc 2 (hc15.below h.below) rfl ?_))
   obtain ⟨y9,hy9,hF,he9,b11,_,q9,cs11,hp9,hq9,rfl,hc16⟩:=(h.sl 0 rfl).1.ix hF
   refine zx hp9 hq9 ⟨he9.1,qR he9.2.1 (h.sl 0 rfl).2⟩ rfl (zc 0 hc16 rfl (zp1 rfl ?_))
   obtain ⟨y10,hy10,hF,he10,b12,_,q10,cs12,hp10,hq10,rfl,hc17⟩:=(h.sl 0 rfl).1.ix hF
   exact zx hp10 hq10 ⟨he10.1,qR he10.2.1 (h.sl 0 rfl).2⟩ rfl (qbx qa 0 0 (W64 (y9+1)) h rfl hy10 hp10 hq10 rfl hc17 rfl rfl rfl rfl rfl rfl rfl fun w15 h=>X0 7 rfl (rK ⟨_,_,hF,rfl,h⟩ rfl))
  exact X0 7 rfl (rK ⟨_,_,hF,rfl,h⟩ rfl)
 refine qu rfl ?_
 obtain rfl:=qb hF;replace hF:=hK4
 refine X0 5 rfl ?_
 obtain ⟨o5,hF,hK5⟩:=qc hF
 refine qm ?_
 replace h:=h.pick [0] rfl
 refine rL (fun m e w'=>∃ (i5:Int),qeb x5 x7 m i5=some o5∧e=[(9,.slice p14 x5.length x5.length),(13,.int .i64 i5)]∧SH w w' [Ch.own S9 (x7:List Int) [.slice p14 x5.length x5.length]]) n ⟨_,hF,rfl,h⟩ rfl ?_
 rintro m5 e5 w16 ⟨i5,hF,rfl,h⟩
 rcases m5 with _|m5
 ·cases hF
 refine X0 8 rfl (qh rfl hF ?_ ?_)<;>intro hF
 ·refine X0 7 rfl ?_
  obtain ⟨y11,hy11,hF,he11,b13,_,q11,cs13,hp11,hq11,rfl,hc19⟩:=(h.sl 0 rfl).1.ix hF
  refine zx hp11 hq11 ⟨he11.1,qR he11.2.1 (h.sl 0 rfl).2⟩ rfl (zc 0 hc19 rfl (X0 2 rfl (qh rfl hF ?_ ?_)))<;>intro hF
  ·refine X0 4 rfl ?_
   obtain rfl:=qb hF;replace hF:=hK5
   exact rb h hF rfl
  exact X0 7 rfl (rK ⟨_,hF,rfl,h⟩ rfl)
 refine qu rfl ?_
 obtain rfl:=qb hF;replace hF:=hK5
 exact X0 4 rfl (rb h hF rfl)
def qfd (a_0:qQ):Nat→Int→Option (Flow Bool Int)
 | 0,_=>none
 | n+1,i2 =>
  bif decide (i2<(a_0.Bl.length:Int)) then
   (idx a_0.Bl i2).bind fun y7 =>
   (qar n y7 0 (W64 ((a_0.Am.length:Int)-1))).bind fun r5 =>
   bif (!r5) then some (.ret false) else
   qfd a_0 n (W64 (i2+1))
  else
   some (.nxt i2)
def qcN (a_0:qQ):Nat→Int→Option (Flow Bool Int)
 | 0,_=>none
 | n+1,i1 =>
  bif decide (i1<(a_0.Am.length:Int)) then
   (
    (idx a_0.Bt i1).bind fun y5 =>
    (qar n y5 0 500).bind fun r3 =>
    bif (!r3) then some true else
    (idx a_0.Bw i1).bind fun y6 =>
    (qar n y6 0 1000).bind fun r4 =>
    some (!r4)).bind fun b2 =>
   bif b2 then some (.ret false) else
   bif (i1==0) then
    (idx a_0.Am i1).bind fun y1 =>
    bif (y1 != (-1)) then some (.ret false) else
    (idx a_0.Bw i1).bind fun y2 =>
    bif (y2 != 0) then some (.ret false) else
    bif decide (i1 > 0) then
     (idx a_0.Am i1).bind fun y3 =>
     (qar n y3 0 (W64 (i1-1))).bind fun r1 =>
     bif (!r1) then some (.ret false) else
     qcN a_0 n (W64 (i1+1))
    else
     qcN a_0 n (W64 (i1+1))
   else
    bif decide (i1 > 0) then
     (idx a_0.Am i1).bind fun y4 =>
     (qar n y4 0 (W64 (i1-1))).bind fun r2 =>
     bif (!r2) then some (.ret false) else
     qcN a_0 n (W64 (i1+1))
    else
     qcN a_0 n (W64 (i1+1))
  else
   some (.nxt i1)
def qlf (n:Nat) (a_0:qQ) (a_1:Int):Option Bool :=
 (
  bif decide ((a_0.Am.length:Int)<1) then some true else
  bif decide ((a_0.Am.length:Int) > 8) then some true else
  bif ((a_0.Bw.length:Int) != (a_0.Am.length:Int)) then some true else
  bif ((a_0.Bt.length:Int) != (a_0.Am.length:Int)) then some true else
  some ((a_0.Bl.length:Int) != a_1)).bind fun b1 =>
 bif b1 then some false else
 (qcN a_0 n 0).bind fun o=>match o with
 | .ret r=>some r
 | .nxt _ =>
  (qfd a_0 n 0).bind fun o=>match o with
  | .ret r=>some r
  | .nxt _ =>
   some true
theorem qqG {a_0:qQ} {a_1:Int} (ha1:GoT.R w (old w) a_0 cs1) {r:Bool} (hF:qlf n a_0 a_1=some r):RetV Tryz.prog 178 [GoT.v qQ cs1,.int .i64 a_1] w r:=by
 obtain ⟨p1,k1,p2,k2,p3,k3,p4,k4,rfl,s1,s2,s3,s4⟩:=qaM ha1
 refine zV 108 Tryz.func178 rfl fun h=>zSR (qw h rfl rfl fun w1 bb1 h=>X1 11 0 h rfl ?_)
 obtain ⟨KF2,hKF2,o4,hF,hK4⟩:=bindE hF
 refine qbp (fun e w'=>∃ (b1:Bool),KF2 b1=some r∧e=[(2,.pointer (some ⟨bb1,0,none⟩)),(5,.int .i64 (a_0.Am.length:Int)),(37,.bool b1)]∧SH w w' [Ch.box bb1 (qgf a_0 p1 p2 p3 p4 k1 k2 k3 k4) 186]) ?_ ?_
 ·refine X0 4 rfl (qi (t:=13) hF rfl ?_ ?_)<;>intro hF
  ·refine X0 25 rfl ?_
   obtain rfl:=qb hF
   exact rG ⟨_,hK4,rfl,h⟩ rfl
  refine X0 6 rfl (qi (t:=17) hF rfl ?_ ?_)<;>intro hF
  ·refine X0 21 rfl ?_
   obtain rfl:=qb hF
   exact rG ⟨_,hK4,rfl,h⟩ rfl
  refine X1 12 0 h rfl (qi (t:=24) hF rfl ?_ ?_)<;>intro hF
  ·refine X0 14 rfl ?_
   obtain rfl:=qb hF
   exact rG ⟨_,hK4,rfl,h⟩ rfl
  refine X1 12 0 h rfl (qi (t:=31) hF rfl ?_ ?_)<;>intro hF
  ·refine X0 7 rfl ?_
   obtain rfl:=qb hF
   exact rG ⟨_,hK4,rfl,h⟩ rfl
  refine X1 12 0 h rfl ?_
  obtain rfl:=qb hF
  exact rG ⟨_,hK4,rfl,h⟩ rfl
 rintro e4 w10 ⟨b1,hF,rfl,h⟩
 subst hKF2
 refine qh rfl hF ?_ ?_<;>intro hF
 ·exact X0 4 rfl (rb h hF rfl)
 refine X0 6 rfl ?_
 obtain ⟨o1,hF,hK1⟩:=qc hF
 refine qm (rL (fun m e w'=>∃ (i1:Int),qcN a_0 m i1=some o1∧e=[(2,.pointer (some ⟨bb1,0,none⟩)),(5,.int .i64 (a_0.Am.length:Int)),(6,.int .i64 i1)]∧SH w w' [Ch.box bb1 (qgf a_0 p1 p2 p3 p4 k1 k2 k3 k4) 186]) n ⟨_,hF,rfl,h⟩ rfl ?_)
 rintro m1 e1 w2 ⟨i1,hF,rfl,h⟩
 rcases m1 with _|m1
 ·cases hF
 refine X0 7 rfl (qh rfl hF ?_ ?_)<;>intro hF
 ·refine X0 5 rfl ?_
  obtain ⟨KF1,hKF1,o2,hF,hK2⟩:=bindE hF
  refine qbp (fun e w'=>∃ (b2:Bool),KF1 b2=some o1∧e=[(2,.pointer (some ⟨bb1,0,none⟩)),(5,.int .i64 (a_0.Am.length:Int)),(6,.int .i64 i1),(58,.bool b2)]∧SH w w' [Ch.box bb1 (qgf a_0 p1 p2 p3 p4 k1 k2 k3 k4) 186]) ?_ ?_
  ·refine X1 4 0 h rfl ?_
   obtain ⟨y5,hy5,hF,he5,b7,_,q5,cs6,hp5,hq5,rfl,hc10⟩:=s3.ix hF
   refine zxe hp5 hq5 he5 rfl (zc 0 (hc10.below h.below) rfl (zcB h hF qaf rfl fun r3 w5 h hF=>zp2 rfl (qi (t:=50) hF rfl ?_ ?_)))<;>intro hF
   ·refine X0 9 rfl ?_
    obtain rfl:=qb hF
    exact rG ⟨_,hK2,rfl,h⟩ rfl
   refine X1 7 0 h rfl ?_
   obtain ⟨y6,hy6,hF,he6,b8,_,q6,cs7,hp6,hq6,rfl,hc11⟩:=s2.ix hF
   refine zxe hp6 hq6 he6 rfl (X0 1 rfl (zc 0 (hc11.below h.below) rfl (X0 1 rfl (zcB h hF qaf rfl fun r4 w6 h hF=>X0 4 rfl ?_))))
   obtain rfl:=qb hF
   exact rG ⟨_,hK2,rfl,h⟩ rfl
  rintro e2 w7 ⟨b2,hF,rfl,h⟩
  subst hKF1
  refine qh rfl hF ?_ ?_<;>intro hF
  ·refine X0 4 rfl ?_
   obtain rfl:=qb hF;replace hF:=hK1
   exact rb h hF rfl
  refine X0 6 rfl (qi (t:=61) hF rfl ?_ ?_)<;>intro hF
  ·refine X1 7 0 h rfl ?_
   obtain ⟨y1,hy1,hF,he1,b3,_,q1,cs2,hp1,hq1,rfl,hc4⟩:=s1.ix hF
   refine zxe hp1 hq1 he1 rfl (X0 1 rfl (zc 0 (hc4.below h.below) rfl (X0 4 rfl (qi (t:=68) hF rfl ?_ ?_))))<;>intro hF
   ·refine X0 25 rfl (qbX rfl rfl (X0 4 rfl ?_))
    obtain rfl:=qb hF;replace hF:=hK1
    exact rb h hF rfl
   refine X1 7 0 h rfl ?_
   obtain ⟨y2,hy2,hF,he2,b4,_,q2,cs3,hp2,hq2,rfl,hc5⟩:=s2.ix hF
   refine zxe hp2 hq2 he2 rfl (X0 1 rfl (zc 0 (hc5.below h.below) rfl (X0 6 rfl (qi (t:=77) hF rfl ?_ ?_))))<;>intro hF
   ·refine X0 15 rfl (qbX rfl rfl (X0 4 rfl ?_))
    obtain rfl:=qb hF;replace hF:=hK1
    exact rb h hF rfl
   refine X0 6 rfl (qi (t:=80) hF rfl ?_ ?_)<;>intro hF
   ·refine X1 7 0 h rfl ?_
    obtain ⟨y3,hy3,hF,he3,b5,_,q3,cs4,hp3,hq3,rfl,hc6⟩:=s1.ix hF
    refine zxe hp3 hq3 he3 rfl (X0 1 rfl (zc 0 (hc6.below h.below) rfl (X0 5 rfl (zcB h hF qaf rfl fun r1 w3 h hF=>X0 6 rfl (qh rfl hF ?_ ?_)))))<;>intro hF
    ·refine X0 4 rfl ?_
     obtain rfl:=qb hF;replace hF:=hK1
     exact rb h hF rfl
    exact X0 7 rfl (rK ⟨_,hF,rfl,h⟩ rfl)
   exact X0 13 rfl (qbZ rfl rfl (X0 7 rfl (rK ⟨_,hF,rfl,h⟩ rfl)))
  refine X0 22 rfl (qi (t:=80) hF rfl ?_ ?_)<;>intro hF
  ·refine X1 7 0 h rfl ?_
   obtain ⟨y4,hy4,hF,he4,b6,_,q4,cs5,hp4,hq4,rfl,hc8⟩:=s1.ix hF
   refine zxe hp4 hq4 he4 rfl (X0 1 rfl (zc 0 (hc8.below h.below) rfl (X0 5 rfl (zcB h hF qaf rfl fun r2 w4 h hF=>X0 6 rfl (qh rfl hF ?_ ?_)))))<;>intro hF
   ·refine X0 4 rfl ?_
    obtain rfl:=qb hF;replace hF:=hK1
    exact rb h hF rfl
   exact X0 7 rfl (rK ⟨_,hF,rfl,h⟩ rfl)
  exact X0 13 rfl (qbZ rfl rfl (X0 7 rfl (rK ⟨_,hF,rfl,h⟩ rfl)))
 refine qu rfl ?_
 obtain rfl:=qb hF;replace hF:=hK1
 refine X0 5 rfl ?_
 obtain ⟨o3,hF,hK3⟩:=qc hF
 refine qm (rL (fun m e w'=>∃ (i2:Int),qfd a_0 m i2=some o3∧e=[(2,.pointer (some ⟨bb1,0,none⟩)),(5,.int .i64 (a_0.Am.length:Int)),(7,.int .i64 i2)]∧SH w w' [Ch.box bb1 (qgf a_0 p1 p2 p3 p4 k1 k2 k3 k4) 186]) n ⟨_,hF,rfl,h⟩ rfl ?_)
 rintro m2 e3 w8 ⟨i2,hF,rfl,h⟩
 rcases m2 with _|m2
 ·cases hF
 refine X1 9 0 h rfl (qh rfl hF ?_ ?_)<;>intro hF
 ·refine X1 8 0 h rfl ?_
  obtain ⟨y7,hy7,hF,he7,b9,_,q7,cs8,hp7,hq7,rfl,hc13⟩:=s4.ix hF
  refine zxe hp7 hq7 he7 rfl (zc 0 (hc13.below h.below) rfl (zp2 rfl (zcB h hF qaf rfl fun r5 w9 h hF=>X0 2 rfl (qh rfl hF ?_ ?_))))<;>intro hF
  ·refine X0 4 rfl ?_
   obtain rfl:=qb hF;replace hF:=hK3
   exact rb h hF rfl
  exact X0 7 rfl (rK ⟨_,hF,rfl,h⟩ rfl)
 refine qu rfl ?_
 obtain rfl:=qb hF;replace hF:=hK3
 exact X0 4 rfl (rb h hF rfl)
def qeE (b:qf):Nat→Int→Option (Flow Bool Int)
 | 0,_=>none
 | n+1,i1 =>
  bif decide (i1<(b.Ac.length:Int)) then
   (idx b.Ac i1).bind fun y1 =>
   (qgc n (⟨b.Ab.Aa,b.Ab.Ap,b.Ab.Aj⟩:qe) i1).bind fun r1 =>
   (qlf n y1 (r1.length:Int)).bind fun r2 =>
   bif (!r2) then some (.ret false) else
   qeE b n (W64 (i1+1))
  else
   some (.nxt i1)
def qg7 (n:Nat) (b:qf):Option Bool :=
 (
  (qi9 n (⟨b.Ay.Au⟩:qq) (⟨b.Ab.Aa,b.Ab.Ap,b.Ab.Aj⟩:qe)).bind fun r3 =>
  bif (!r3) then some true else
  some ((b.Ac.length:Int) != (b.Ab.Ap.length:Int))).bind fun b1 =>
 bif b1 then some false else
 (qeE b n 0).bind fun o=>match o with
 | .ret r=>some r
 | .nxt _ =>
  some true
theorem qmv {b:qf} (ha1:GoT.R w (old w) b cs1) {r:Bool} (hF:qg7 n b=some r):RetV Tryz.prog 143 [GoT.v qf cs1] w r:=by
 obtain ⟨p1,k1,p2,k2,p3,k3,p4,k4,p5,k5,rfl,s1,s2,s3,s4,s5⟩:=qaa ha1
 refine zV 39 Tryz.func143 rfl fun h=>zSR (qw h rfl rfl fun w1 bb1 h=>X0 4 rfl ?_)
 obtain ⟨KF1,hKF1,o2,hF,hK2⟩:=bindE hF
 refine qbp (fun e w'=>∃ (b1:Bool),KF1 b1=some r∧e=[(1,.pointer (some ⟨bb1,0,none⟩)),(19,.bool b1)]∧SH w w' [Ch.box bb1 (qaS b p1 p2 p3 p4 p5 k1 k2 k3 k4 k5) 51]) ?_ ?_
 ·refine X2 5 0 0 h rfl (zcB h hF (qo7 (qdS _ (h.oldS s1)) (qap _ (h.oldS s2) (h.oldS s3) (h.oldS s4))) rfl fun r3 w6 h hF=>zp2 rfl (qi (t:=10) hF rfl ?_ ?_))<;>intro hF
  ·refine X0 10 rfl ?_
   obtain rfl:=qb hF
   exact rG ⟨_,hK2,rfl,h⟩ rfl
  refine X2 18 0 0 h rfl ?_
  obtain rfl:=qb hF
  exact rG ⟨_,hK2,rfl,h⟩ rfl
 rintro e2 w7 ⟨b1,hF,rfl,h⟩
 subst hKF1
 refine qh rfl hF ?_ ?_<;>intro hF
 ·exact X0 4 rfl (rb h hF rfl)
 refine X0 6 rfl ?_
 obtain ⟨o1,hF,hK1⟩:=qc hF
 refine qm (rL (fun m e w'=>∃ (i1:Int),qeE b m i1=some o1∧e=[(1,.pointer (some ⟨bb1,0,none⟩)),(3,.int .i64 i1)]∧SH w w' [Ch.box bb1 (qaS b p1 p2 p3 p4 p5 k1 k2 k3 k4 k5) 51]) n ⟨_,hF,rfl,h⟩ rfl ?_)
 rintro m1 e1 w2 ⟨i1,hF,rfl,h⟩
 rcases m1 with _|m1
 ·cases hF
 refine X1 9 0 h rfl (qh rfl hF ?_ ?_)<;>intro hF
 ·refine X0 4 rfl (rA [] [0] h rfl fun w3 h=>M1 7 [0,1,2] 0 (h.pick [0] rfl) rfl ?_)
  obtain ⟨y1,hy1,hF,he1,b2,_,q1,cs2,hp1,hq1,hr1,hc3⟩:=s5.ix hF
  obtain ⟨p6,k6,p7,k7,p8,k8,p9,k9,rfl,s6,s7,s8,s9⟩:=qaM hr1
  refine Ae 3 15 hp1 hq1 he1 (h.pick [0] rfl) rfl (Al 4 31 0 hc3 (h.pick [0] rfl) rfl (M1 255 [5,6,7] 0 (h.pick [0] rfl) rfl (Ao 8 511 rfl (zcL h hF (qiJ (qap _ (h.oldS s2) (h.oldS s3) (h.oldS s4))) rfl fun r1 w4 S1 p10 k10 h hF=>G0 1023 [9] (h.pick [1] rfl) rfl (Ao 10 2047 rfl (zcB h hF (qqG (qke y1 (h.oldS s6) (h.oldS s7) (h.oldS s8) (h.oldS s9))) rfl fun r2 w5 h hF=>G0 4095 [11] (h.pick [1] rfl) rfl (Ad (qh rfl hF ?_ ?_))))))))<;>intro hF
  ·refine X0 4 rfl ?_
   obtain rfl:=qb hF;replace hF:=hK1
   exact rb h hF rfl
  refine X0 7 rfl ?_
  replace h:=h.pick [1] rfl
  exact rK ⟨_,hF,rfl,h⟩ rfl
 refine qu rfl ?_
 obtain rfl:=qb hF;replace hF:=hK1
 exact X0 4 rfl (rb h hF rfl)
def qaH (_:Nat) (x:Int) (low:Int) (high:Int):Option Bool :=
 bif decide (x ≥ low) then some (decide (x≤high)) else
 some false
theorem qax {x:Int} {low:Int} {high:Int}  {r:Bool} (hF:qaH n x low high=some r):RetV Tryz.prog 159 [.int .i64 x,.int .i64 low,.int .i64 high] w r:=by
 refine zV 15 Tryz.func159 rfl fun h=>X0 10 rfl (qi (t:=10) hF rfl ?_ ?_)<;>intro hF
 ·exact X0 9 rfl (rb h hF rfl)
 exact X0 6 rfl (rb h hF rfl)
def qis (_:Nat) (s cutset:ByteArray):Option ByteArray :=
 if s.size≤9223372036854775807∧cutset.size<4294967281∧cutset.data.toList.all (fun b=>decide (b.toNat<128))=true then some ⟨(Lib.trimS s.data.toList cutset.data.toList).toArray⟩ else none
theorem qpP {s cutset:ByteArray} {r:ByteArray} (hF:qis n s cutset=some r):RetV Tryz.prog 246 [.string s,.string cutset] w r:=by
 unfold qis at hF
 split at hF
 ·rename_i hh
  obtain rfl:=qb hF
  refine (Tryz.strings_Trim_any s cutset w hh.1 hh.2.1 hh.2.2).mono ?_
  rintro e w' ⟨rfl,hB⟩
  exact ⟨_,rfl,hB,[.string _],rfl,qyp _ _⟩
 cases hF
def qgi (_:Nat) (s:ByteArray) (c:(IntK .u8)):Option Int :=
 some (Lib.indexByte s.data.toList c.val.toNat.toUInt8)
theorem qmQ {s:ByteArray} {c:(IntK .u8)} {r:Int} (hF:qgi n s c=some r):RetV Tryz.prog 247 [.string s,.int .u8 c.val] w r:=by
 obtain rfl:=qb hF
 refine (Tryz.strings_IndexByte s c.val w).mono ?_
 rintro e w' ⟨rfl,rfl⟩
 exact ⟨_,rfl,Below.refl _ _,[.int .i64 _],rfl,qwG _ _⟩
def qhQ (n:Nat) (s:ByteArray):Option Bool :=
 (qaH n (s.size:Int) 1 8).bind fun r1 =>
 bif r1 then
  (qis n s (⟨#[97,98,99,100,101,102,103,104,105,106,107,108,109,110,111,112,113,114,115,116,117,118,119,120,121,122,48,49,50,51,52,53,54,55,56,57]⟩:ByteArray)).bind fun r2 =>
  bif (r2.toList==(⟨#[]⟩:ByteArray).toList) then
   (atS s 0).bind fun y1 =>
   (qgi n (⟨#[97,98,99,100,101,102,103,104,105,106,107,108,109,110,111,112,113,114,115,116,117,118,119,120,121,122]⟩:ByteArray) (⟨y1⟩:IntK .u8)).bind fun r3 =>
   some (decide (r3 ≥ 0))
  else
   some false
 else
  some false
theorem qkK {s:ByteArray}  {r:Bool} (hF:qhQ n s=some r):RetV Tryz.prog 214 [.string s] w r:=by
 refine zV 17 Tryz.func214 rfl fun h=>X0 8 rfl (zcB h hF qax rfl fun r1 w1 h hF=>zp1 rfl (qi (t:=6) hF rfl ?_ ?_))<;>intro hF
 ·refine X0 3 rfl (zcS h hF qpP rfl fun r2 w2 h hF=>X0 4 rfl (qi (t:=11) hF rfl ?_ ?_))<;>intro hF
  ·refine X0 3 rfl ?_
   obtain ⟨y1,hx1,hF⟩:=qc hF
   have g1:=qmO hx1
   exact r_v (qmX qa g1 rfl rfl rfl rfl) rfl (X0 1 rfl (zcI h hF qmQ rfl fun r3 w3 h hF=>X0 5 rfl (rb h hF rfl)))
  exact X0 7 rfl (rb h hF rfl)
 exact X0 12 rfl (rb h hF rfl)
def qbT (s:(List ByteArray)) (v:ByteArray):Nat→Int→Option (Flow Int Int)
 | 0,_=>none
 | n+1,i1 =>
  bif decide (i1<(s.length:Int)) then
   (idx s i1).bind fun y1 =>
   bif (v.toList==y1.toList) then some (.ret i1) else
   qbT s v n (W64 (i1+1))
  else
   some (.nxt i1)
def qfb (n:Nat) (s:(List ByteArray)) (v:ByteArray):Option Int :=
 (qbT s v n 0).bind fun o=>match o with
 | .ret r=>some r
 | .nxt _ =>
  some (-1)
theorem qmm {s:(List ByteArray)} {v:ByteArray} (ha1:GoT.R w (old w) s cs1) {r:Int} (hF:qfb n s v=some r):RetV Tryz.prog 296 [GoT.v (List ByteArray) cs1,.string v] w r:=by
 obtain ⟨p1,k1,rfl,s1⟩:=ha1
 refine zV 19 Tryz.func296 rfl fun h=>X0 11 rfl ?_
 obtain ⟨o1,hF,hK1⟩:=qc hF
 refine qm (rL (fun m e w'=>∃ (i1:Int),qbT s v m i1=some o1∧e=[(0,.slice p1 s.length k1),(1,.string v),(7,.int .i64 (s.length:Int)),(8,.int .i64 i1)]∧SH w w' []) n ⟨_,hF,rfl,h⟩ rfl ?_)
 rintro m1 e1 w1 ⟨i1,hF,rfl,h⟩
 rcases m1 with _|m1
 ·cases hF
 refine X0 5 rfl (qh rfl hF ?_ ?_)<;>intro hF
 ·refine X0 13 rfl ?_
  obtain ⟨y1,hy1,hF,he1,b1,_,q1,cs2,hp1,hq1,rfl,hc2⟩:=s1.ix hF
  refine zxe hp1 hq1 he1 rfl (zc 0 (hc2.below h.below) rfl (X0 2 rfl (qh rfl hF ?_ ?_)))<;>intro hF
  ·refine X0 5 rfl ?_
   obtain rfl:=qb hF;replace hF:=hK1
   exact ri h hF rfl
  exact X0 6 rfl (rK ⟨_,hF,rfl,h⟩ rfl)
 refine qu rfl ?_
 obtain rfl:=qb hF;replace hF:=hK1
 exact X0 4 rfl (ri h hF rfl)
def qdW (n:Nat) (s:(List ByteArray)) (v:ByteArray):Option Bool :=
 (qfb n s v).bind fun r1 =>
 some (decide (r1 ≥ 0))
theorem qkO {s:(List ByteArray)} {v:ByteArray} (ha1:GoT.R w (old w) s cs1) {r:Bool} (hF:qdW n s v=some r):RetV Tryz.prog 283 [GoT.v (List ByteArray) cs1,.string v] w r:=by
 obtain ⟨p1,k1,rfl,s1⟩:=ha1
 exact zV 9 Tryz.func283 rfl fun h=>X0 8 rfl (zcI h hF (qmm ⟨_,_,rfl,(h.oldS s1)⟩) rfl fun r1 w1 h hF=>X0 3 rfl (rb h hF rfl))
def qd8 (list:(List ByteArray)):Nat→Int→Option (Flow Bool Int)
 | 0,_=>none
 | n+1,i1 =>
  bif decide (i1<(list.length:Int)) then
   (idx list i1).bind fun y1 =>
   (qhQ n y1).bind fun r1 =>
   bif (!r1) then some (.ret false) else
   (subS list 0 i1).bind fun x1 =>
   (qdW n x1 y1).bind fun r2 =>
   bif r2 then some (.ret false) else
   qd8 list n (W64 (i1+1))
  else
   some (.nxt i1)
def qd0 (n:Nat) (list:(List ByteArray)):Option Bool :=
 (qd8 list n 0).bind fun o=>match o with
 | .ret r=>some r
 | .nxt _ =>
  some true
theorem qfo {list:(List ByteArray)} (ha1:GoT.R w (old w) list cs1) {r:Bool} (hF:qd0 n list=some r):RetV Tryz.prog 265 [GoT.v (List ByteArray) cs1] w r:=by
 obtain ⟨p1,k1,rfl,s1⟩:=ha1
 refine zV 23 Tryz.func265 rfl fun h=>X0 11 rfl ?_
 obtain ⟨o1,hF,hK1⟩:=qc hF
 refine qm (rL (fun m e w'=>∃ (i1:Int),qd8 list m i1=some o1∧e=[(0,.slice p1 list.length k1),(5,.slice p1 list.length k1),(6,.int .i64 (list.length:Int)),(7,.int .i64 i1)]∧SH w w' []) n ⟨_,hF,rfl,h⟩ rfl ?_)
 rintro m1 e1 w1 ⟨i1,hF,rfl,h⟩
 rcases m1 with _|m1
 ·cases hF
 refine X0 5 rfl (qh rfl hF ?_ ?_)<;>intro hF
 ·refine X0 6 rfl ?_
  obtain ⟨y1,hy1,hF,he1,b1,_,q1,cs2,hp1,hq1,rfl,hc2⟩:=s1.ix hF
  refine zxe hp1 hq1 he1 rfl (zc 0 (hc2.below h.below) rfl (X0 6 rfl (zcB h hF qkK rfl fun r1 w2 h hF=>zp2 rfl (qi (t:=15) hF rfl ?_ ?_))))<;>intro hF
  ·refine X0 7 rfl (qbX rfl rfl (X0 4 rfl ?_))
   obtain rfl:=qb hF;replace hF:=hK1
   exact rb h hF rfl
  refine X0 5 rfl ?_
  obtain ⟨x1,hx1,hF⟩:=qc hF
  obtain ⟨p2,k2,hp2,hk1,hl1,g1⟩:=qwt (h.oldS s1) hx1
  refine r_v (qs6 qa rfl rfl rfl (qwJ g1 rfl) hp2 hk1 hl1 rfl rfl rfl rfl) rfl ?_
  have s2:=qv1 s1 hx1 hp2 hk1
  refine X0 3 rfl (zcB h hF (qkO ⟨_,_,rfl,(h.oldS s2)⟩) rfl fun r2 w3 h hF=>X0 2 rfl (qh rfl hF ?_ ?_))<;>intro hF
  ·refine X0 4 rfl ?_
   obtain rfl:=qb hF;replace hF:=hK1
   exact rb h hF rfl
  exact X0 6 rfl (rK ⟨_,hF,rfl,h⟩ rfl)
 refine qu rfl ?_
 obtain rfl:=qb hF;replace hF:=hK1
 exact X0 4 rfl (rb h hF rfl)
def qcl (_:Nat) (list:(List qaq)):Option Int :=
 some (list.length:Int)
theorem qhR {list:(List qaq)} (ha1:GoT.R w (old w) list cs1) {r:Int} (hF:qcl n list=some r):RetV Tryz.prog 290 [GoT.v (List qaq) cs1] w r:=by
 obtain ⟨p1,k1,rfl,s1⟩:=ha1
 exact zV 5 Tryz.func290 rfl fun h=>X0 10 rfl (ri h hF rfl)
def qc0 (list:(List qaq)):Nat→(List ByteArray)→Int→Option (Flow Bool ((List ByteArray) × Int))
 | 0,_,_=>none
 | n+1,x1,i1 =>
  bif decide (i1<(list.length:Int)) then
   (idx list i1).bind fun y1 =>
   (appS x1 ([y1.Bb]:List ByteArray)).bind fun x2 =>
   bif (i1==(W64 ((list.length:Int)-1))) then
    bif (y1.Bv != 2) then some (.ret false) else
    bif (y1.Bt != 0) then some (.ret false) else
    bif y1.Bq then some (.ret false) else
    qc0 list n x2 (W64 (i1+1))
   else
    bif (y1.Bv != 1) then some (.ret false) else
    (qaH n y1.Bt 0 500).bind fun r1 =>
    bif (!r1) then some (.ret false) else
    qc0 list n x2 (W64 (i1+1))
  else
   some (.nxt (x1,i1))
def qjP (n:Nat) (list:(List qaq)):Option Bool :=
 (qc0 list n ([]:List ByteArray) 0).bind fun o=>match o with
 | .ret r=>some r
 | .nxt (x1,_) =>
  (qcl n list).bind fun r2 =>
  (qaH n r2 2 5).bind fun r3 =>
  bif r3 then
   (qd0 n x1).bind fun r4 =>
   some r4
  else
   some false
theorem qpz {list:(List qaq)} (ha1:GoT.R w (old w) list cs1) {r:Bool} (hF:qjP n list=some r):RetV Tryz.prog 280 [GoT.v (List qaq) cs1] w r:=by
 obtain ⟨p1,k1,rfl,s1⟩:=ha1
 refine zV 52 Tryz.func280 rfl fun h=>X0 15 rfl ?_
 replace h:=h.nil (α:=ByteArray)
 obtain ⟨o1,hF,hK1⟩:=qc hF
 refine qm (rL (fun m e w'=>∃ (S1:Nat→Prop) (p2:Option Addr) (ln1:Nat) (k2:Nat) (x1:(List ByteArray)) (i1:Int),qc0 list m x1 i1=some o1∧e=[(0,.slice p1 list.length k1),(3,.slice p2 ln1 k2),(6,.slice p1 list.length k1),(7,.int .i64 (list.length:Int)),(8,.int .i64 i1)]∧SH w w' [Ch.own S1 (x1:List ByteArray) [.slice p2 ln1 k2]]) n ⟨_,_,_,_,_,_,hF,rfl,h⟩ rfl ?_)
 rintro m1 e1 w1 ⟨S1,p2,ln1,k2,x1,i1,hF,rfl,h⟩
 obtain rfl:=(h.sl 0 rfl).2
 rcases m1 with _|m1
 ·cases hF
 refine X0 5 rfl (qh rfl hF ?_ ?_)<;>intro hF
 ·refine X0 6 rfl ?_
  obtain ⟨y1,hy1,hF,he1,b1,_,q1,cs2,hp1,hq1,hr1,hc2⟩:=s1.ix hF
  obtain rfl:=qbt hr1
  refine zxe hp1 hq1 he1 rfl (zc 0 (hc2.below h.below) rfl (qj qa h rfl rfl rfl fun w2 bb1 h=>zp1 rfl (zs 0 h rfl fun w3 h=>X1 6 0 h rfl (qI qa [.tmp 15] _ ([y1.Bb]:List ByteArray) h rfl rfl rfl rfl rfl rfl rfl rfl rfl ⟨rfl,trivial⟩ rfl fun w4 p3 S2 h=>?_))))
  obtain ⟨x2,hx1,hF⟩:=qc hF
  obtain ⟨g1,hx1⟩:=qat hx1
  refine qct qa 2 h rfl (h.sl 0 rfl).1 (h.sl 0 rfl).2 rfl rfl rfl rfl rfl rfl rfl rfl rfl g1 hx1 rfl fun w5 p4 k3 S3 h=>X0 10 rfl (qh rfl hF ?_ ?_)<;>intro hF
  ·refine X1 6 1 h rfl (qi (t:=26) hF rfl ?_ ?_)<;>intro hF
   ·refine X0 9 rfl (qbX rfl rfl (X0 4 rfl ?_))
    obtain rfl:=qb hF;replace hF:=hK1
    exact rb h hF rfl
   refine X1 8 1 h rfl (qi (t:=31) hF rfl ?_ ?_)<;>intro hF
   ·refine X0 4 rfl (qbX rfl rfl (X0 4 rfl ?_))
    obtain rfl:=qb hF;replace hF:=hK1
    exact rb h hF rfl
   refine X1 6 1 h rfl (qh rfl hF ?_ ?_)<;>intro hF
   ·refine X0 4 rfl ?_
    obtain rfl:=qb hF;replace hF:=hK1
    exact rb h hF rfl
   refine X0 6 rfl ?_
   replace h:=h.pick [2] rfl
   exact rK ⟨_,_,_,_,_,_,hF,rfl,h⟩ rfl
  refine X1 6 1 h rfl (qi (t:=38) hF rfl ?_ ?_)<;>intro hF
  ·refine X0 6 rfl (qbX rfl rfl (X0 4 rfl ?_))
   obtain rfl:=qb hF;replace hF:=hK1
   exact rb h hF rfl
  refine X1 5 1 h rfl (zcB h hF qax rfl fun r1 w6 h hF=>X0 4 rfl (qh rfl hF ?_ ?_))<;>intro hF
  ·refine X0 4 rfl ?_
   obtain rfl:=qb hF;replace hF:=hK1
   exact rb h hF rfl
  refine X0 6 rfl ?_
  replace h:=h.pick [2] rfl
  exact rK ⟨_,_,_,_,_,_,hF,rfl,h⟩ rfl
 refine qu rfl ?_
 obtain rfl:=qb hF;replace hF:=hK1
 refine X0 3 rfl (zcI h hF (qhR ⟨_,_,rfl,(h.oldS s1)⟩) rfl fun r2 w7 h hF=>zcB h hF qax rfl fun r3 w8 h hF=>zp1 rfl (qi (t:=48) hF rfl ?_ ?_))<;>intro hF
 ·exact X0 3 rfl (zcB h hF (qfo (h.own 0 rfl)) rfl fun r4 w9 h hF=>X0 3 rfl (rb h hF rfl))
 exact X0 5 rfl (rb h hF rfl)
def qd4 (n:Nat) (c:qB):Option Int :=
 (qcl n c.Be).bind fun r1 =>
 some (W64 (r1-1))
theorem qhb {c:qB} (ha1:GoT.R w (old w) c cs1) {r:Int} (hF:qd4 n c=some r):RetV Tryz.prog 294 [GoT.v qB cs1] w r:=by
 obtain ⟨p1,k1,p2,k2,p3,k3,rfl,s1,s2,s3⟩:=qad ha1
 exact zV 7 Tryz.func294 rfl fun h=>zSR (qw h rfl rfl fun w1 bb1 h=>X1 6 0 h rfl (zcI h hF (qhR ⟨_,_,rfl,(h.oldS s1)⟩) rfl fun r1 w2 h hF=>X0 3 rfl (ri h hF rfl)))
def qjY (_:Nat) (kind:Int):Option Bool :=
 bif (kind==4) then some true else
 some (kind==5)
theorem qpT {kind:Int}  {r:Bool} (hF:qjY n kind=some r):RetV Tryz.prog 301 [.int .i64 kind] w r:=by
 refine zV 9 Tryz.func301 rfl fun h=>X0 9 rfl (qi (t:=5) hF rfl ?_ ?_)<;>intro hF
 ·exact X0 5 rfl (rb h hF rfl)
 exact X0 7 rfl (rb h hF rfl)
def qgT (n:Nat) (a_n:Int) (v0:Int) (v1:Int):Option Bool :=
 (qaH n a_n v0 v1).bind fun r1 =>
 some (!r1)
theorem qnI {a_n:Int} {v0:Int} {v1:Int} {p1:Option Addr} (ha1:GoT.R w (old w) (some v0) [.pointer p1]) {p2:Option Addr} (ha2:GoT.R w (old w) (some v1) [.pointer p2]) {r:Bool} (hF:qgT n a_n v0 v1=some r):RetV Tryz.prog 158 [.int .i64 a_n,.pointer p1,.pointer p2] w r:=by
 obtain ⟨b1,o_1,cs1,rfl,-,hr1,hc1⟩:=PtR.get ha1 rfl
 obtain rfl:=hr1
 obtain ⟨b2,o_2,cs2,rfl,-,hr2,hc2⟩:=PtR.get ha2 rfl
 obtain rfl:=hr2
 exact zV 10 Tryz.func158 rfl fun h=>X0 7 rfl (zc 0 (hc1.below h.below) rfl (zc 0 (hc2.below h.below) rfl (zcB h hF qax rfl fun r1 w1 h hF=>X0 3 rfl (rb h hF rfl))))
def qae (s:(List Int)) (f_0:Int) (f_1:Int):Nat→Int→Option (Flow Int Int)
 | 0,_=>none
 | n+1,i1 =>
  bif decide (i1<(s.length:Int)) then
   (idx s i1).bind fun y1 =>
   (qgT n y1 f_0 f_1).bind fun r1 =>
   bif r1 then some (.ret i1) else
   qae s f_0 f_1 n (W64 (i1+1))
  else
   some (.nxt i1)
def qaT (n:Nat) (s:(List Int)) (f_0:Int) (f_1:Int):Option Int :=
 (qae s f_0 f_1 n 0).bind fun o=>match o with
 | .ret r=>some r
 | .nxt _ =>
  some (-1)
theorem qfE {s:(List Int)} {f_0:Int} {f_1:Int} (ha1:GoT.R w (old w) s cs1) {p2:Option Addr} (ha2:GoT.R w (old w) (some f_0) [.pointer p2]) {p3:Option Addr} (ha3:GoT.R w (old w) (some f_1) [.pointer p3]) {r:Int} (hF:qaT n s f_0 f_1=some r):RetV Tryz.prog 162 [GoT.v (List Int) cs1,.func (.func 158) #[] #[.pointer p2,.pointer p3]] w r:=by
 obtain ⟨p1,k1,rfl,s1⟩:=ha1
 obtain ⟨b1,o_1,cs2,rfl,-,hr1,hc1⟩:=PtR.get ha2 rfl
 obtain rfl:=hr1
 obtain ⟨b2,o_2,cs3,rfl,-,hr2,hc2⟩:=PtR.get ha3 rfl
 obtain rfl:=hr2
 refine zV 19 Tryz.func162 rfl fun h=>X0 11 rfl ?_
 obtain ⟨o1,hF,hK1⟩:=qc hF
 refine qm (rL (fun m e w'=>∃ (i1:Int),qae s f_0 f_1 m i1=some o1∧e=[(0,.slice p1 s.length k1),(1,.func (.func 158) #[] #[.pointer (some ⟨b1,o_1,none⟩),.pointer (some ⟨b2,o_2,none⟩)]),(7,.int .i64 (s.length:Int)),(8,.int .i64 i1)]∧SH w w' []) n ⟨_,hF,rfl,h⟩ rfl ?_)
 rintro m1 e1 w1 ⟨i1,hF,rfl,h⟩
 rcases m1 with _|m1
 ·cases hF
 refine X0 5 rfl (qh rfl hF ?_ ?_)<;>intro hF
 ·refine X0 13 rfl ?_
  obtain ⟨y1,hy1,hF,he1,b3,_,q1,cs4,hp1,hq1,rfl,hc4⟩:=s1.ix hF
  refine zxe hp1 hq1 he1 rfl (zc 0 (hc4.below h.below) rfl (zcB h hF (qnI (h.old ha2) (h.old ha3)) rfl fun r1 w2 h hF=>qcw (qh rfl hF ?_ ?_)))<;>intro hF
  ·refine X0 5 rfl ?_
   obtain rfl:=qb hF;replace hF:=hK1
   exact ri h hF rfl
  exact X0 6 rfl (rK ⟨_,hF,rfl,h⟩ rfl)
 refine qu rfl ?_
 obtain rfl:=qb hF;replace hF:=hK1
 exact X0 4 rfl (ri h hF rfl)
def qbu (n:Nat) (s:(List Int)) (f_0:Int) (f_1:Int):Option Bool :=
 (qaT n s f_0 f_1).bind fun r1 =>
 some (decide (r1 ≥ 0))
theorem qe9 {s:(List Int)} {f_0:Int} {f_1:Int} (ha1:GoT.R w (old w) s cs1) {p2:Option Addr} (ha2:GoT.R w (old w) (some f_0) [.pointer p2]) {p3:Option Addr} (ha3:GoT.R w (old w) (some f_1) [.pointer p3]) {r:Bool} (hF:qbu n s f_0 f_1=some r):RetV Tryz.prog 110 [GoT.v (List Int) cs1,.func (.func 158) #[] #[.pointer p2,.pointer p3]] w r:=by
 obtain ⟨p1,k1,rfl,s1⟩:=ha1
 obtain ⟨b1,o_1,cs2,rfl,-,hr1,hc1⟩:=PtR.get ha2 rfl
 obtain rfl:=hr1
 obtain ⟨b2,o_2,cs3,rfl,-,hr2,hc2⟩:=PtR.get ha3 rfl
 obtain rfl:=hr2
 exact zV 9 Tryz.func110 rfl fun h=>X0 8 rfl (zcI h hF (qfE ⟨_,_,rfl,(h.oldS s1)⟩ (h.old ha2) (h.old ha3)) rfl fun r1 w1 h hF=>X0 3 rfl (rb h hF rfl))
def qbN (n:Nat) (list:(List Int)) (low:Int) (high:Int):Option Bool :=
 (qbu n list low high).bind fun r1 =>
 some (!r1)
theorem qb6 {list:(List Int)} {low:Int} {high:Int} (ha1:GoT.R w (old w) list cs1) {r:Bool} (hF:qbN n list low high=some r):RetV Tryz.prog 106 [GoT.v (List Int) cs1,.int .i64 low,.int .i64 high] w r:=by
 obtain ⟨p1,k1,rfl,s1⟩:=ha1
 exact zV 11 Tryz.func106 rfl fun h=>zSR (qw h rfl rfl fun w1 bb1 h=>qw h rfl rfl fun w2 bb2 h=>X0 6 rfl (zcB h hF (qe9 ⟨_,_,rfl,(h.oldS s1)⟩ (qgF (x:=low) 1 h rfl rfl) (qgF (x:=high) 0 h rfl rfl)) rfl fun r1 w3 h hF=>X0 3 rfl (rb h hF rfl)))
def qbn (_:Nat) (list:(List Int)):Option Int :=
 some (list.length:Int)
theorem qci {list:(List Int)} (ha1:GoT.R w (old w) list cs1) {r:Int} (hF:qbn n list=some r):RetV Tryz.prog 217 [GoT.v (List Int) cs1] w r:=by
 obtain ⟨p1,k1,rfl,s1⟩:=ha1
 exact zV 5 Tryz.func217 rfl fun h=>X0 10 rfl (ri h hF rfl)
def qbr (list:(List Int)):Nat→Int→Option (Flow Bool Int)
 | 0,_=>none
 | n+1,i1 =>
  bif decide (i1<(list.length:Int)) then
   (idx list (W64 (i1-1))).bind fun y1 =>
   (idx list i1).bind fun y2 =>
   bif decide (y1 ≥ y2) then some (.ret false) else
   qbr list n (W64 (i1+1))
  else
   some (.nxt i1)
def qeU (n:Nat) (list:(List Int)):Option Bool :=
 (qbr list n 1).bind fun o=>match o with
 | .ret r=>some r
 | .nxt _ =>
  some true
theorem qjv {list:(List Int)} (ha1:GoT.R w (old w) list cs1) {r:Bool} (hF:qeU n list=some r):RetV Tryz.prog 223 [GoT.v (List Int) cs1] w r:=by
 obtain ⟨p1,k1,rfl,s1⟩:=ha1
 refine zV 20 Tryz.func223 rfl fun h=>X0 9 rfl ?_
 obtain ⟨o1,hF,hK1⟩:=qc hF
 refine qm (rL (fun m e w'=>∃ (i1:Int),qbr list m i1=some o1∧e=[(0,.slice p1 list.length k1),(3,.int .i64 i1)]∧SH w w' []) n ⟨_,hF,rfl,h⟩ rfl ?_)
 rintro m1 e1 w1 ⟨i1,hF,rfl,h⟩
 rcases m1 with _|m1
 ·cases hF
 refine X0 8 rfl (qh rfl hF ?_ ?_)<;>intro hF
 ·refine X0 4 rfl (rD (zd3 rfl ?_))
  obtain ⟨y1,hy1,hF,he1,b1,_,q1,cs2,hp1,hq1,rfl,hc2⟩:=s1.ix hF
  refine zdxe hp1 hq1 he1 rfl (zdc 0 (hc2.below h.below) rfl (zd2 rfl ?_))
  obtain ⟨y2,hy2,hF,he2,b2,_,q2,cs3,hp2,hq2,rfl,hc3⟩:=s1.ix hF
  refine zdxe hp2 hq2 he2 rfl (zdc 0 (hc3.below h.below) rfl (zd1 rfl (dN h fun w2 h=>qh rfl hF ?_ ?_)))<;>intro hF
  ·refine X0 4 rfl ?_
   obtain rfl:=qb hF;replace hF:=hK1
   exact rb h hF rfl
  exact X0 7 rfl (rK ⟨_,hF,rfl,h⟩ rfl)
 refine qu rfl ?_
 obtain rfl:=qb hF;replace hF:=hK1
 exact X0 4 rfl (rb h hF rfl)
def qjk (n:Nat) (list:(List Int)):Option Bool :=
 (qbn n list).bind fun r1 =>
 (qaH n r1 1 4).bind fun r2 =>
 bif r2 then
  (qbN n list 0 100000).bind fun r3 =>
  bif r3 then
   (qeU n list).bind fun r4 =>
   some r4
  else
   some false
 else
  some false
theorem qmK {list:(List Int)} (ha1:GoT.R w (old w) list cs1) {r:Bool} (hF:qjk n list=some r):RetV Tryz.prog 318 [GoT.v (List Int) cs1] w r:=by
 obtain ⟨p1,k1,rfl,s1⟩:=ha1
 refine zV 14 Tryz.func318 rfl fun h=>X0 7 rfl (zcI h hF (qci ⟨_,_,rfl,(h.oldS s1)⟩) rfl fun r1 w1 h hF=>zcB h hF qax rfl fun r2 w2 h hF=>zp1 rfl (qi (t:=6) hF rfl ?_ ?_))<;>intro hF
 ·refine X0 3 rfl (zcB h hF (qb6 ⟨_,_,rfl,(h.oldS s1)⟩) rfl fun r3 w3 h hF=>zp2 rfl (qi (t:=10) hF rfl ?_ ?_))<;>intro hF
  ·exact X0 3 rfl (zcB h hF (qjv ⟨_,_,rfl,(h.oldS s1)⟩) rfl fun r4 w4 h hF=>X0 3 rfl (rb h hF rfl))
  exact X0 5 rfl (rb h hF rfl)
 exact X0 9 rfl (rb h hF rfl)
def qj2 (n:Nat) (t:qx):Option Bool :=
 (qjk n t.Bm).bind fun r1 =>
 bif r1 then
  (qjk n t.Bj).bind fun r2 =>
  bif r2 then
   bif ((t.Bh.length:Int)==(W64 ((t.Bm.length:Int)*(t.Bj.length:Int)))) then
    (qbN n t.Bh (-1000000) 1000000).bind fun r3 =>
    some r3
   else
    some false
  else
   some false
 else
  some false
theorem qp0 {t:qx} (ha1:GoT.R w (old w) t cs1) {r:Bool} (hF:qj2 n t=some r):RetV Tryz.prog 313 [GoT.v qx cs1] w r:=by
 obtain ⟨p1,k1,p2,k2,p3,k3,rfl,s1,s2,s3⟩:=qaE ha1
 refine zV 29 Tryz.func313 rfl fun h=>zSR (qw h rfl rfl fun w1 bb1 h=>X1 6 0 h rfl (zcB h hF (qmK ⟨_,_,rfl,(h.oldS s1)⟩) rfl fun r1 w2 h hF=>zp1 rfl (qi (t:=6) hF rfl ?_ ?_)))<;>intro hF
 ·refine X1 5 0 h rfl (zcB h hF (qmK ⟨_,_,rfl,(h.oldS s2)⟩) rfl fun r2 w3 h hF=>zp2 rfl (qi (t:=11) hF rfl ?_ ?_))<;>intro hF
  ·refine X3 24 0 0 0 h rfl (qi (t:=24) hF rfl ?_ ?_)<;>intro hF
   ·exact X1 5 0 h rfl (zcB h hF (qb6 ⟨_,_,rfl,(h.oldS s3)⟩) rfl fun r3 w4 h hF=>X0 3 rfl (rb h hF rfl))
   exact X0 6 rfl (rb h hF rfl)
  exact X0 19 rfl (rb h hF rfl)
 exact X0 24 rfl (rb h hF rfl)
def qcQ (x:(List Int)):Nat→Int→Int→Option (Int × Int)
 | 0,_,_=>none
 | n+1,i1,i2 =>
  bif decide (i2<(x.length:Int)) then
   (idx x i2).bind fun y2 =>
   qcQ x n (if y2<i1 then y2 else i1) (W64 (i2+1))
  else
   some (i1,i2)
def qgM (n:Nat) (x:(List Int)):Option Int :=
 (
  bif decide ((x.length:Int)<1) then none else
  some ()).bind fun _ =>
 (idx x 0).bind fun y1 =>
 (qcQ x n y1 1).bind fun o=>match o with
 | (i1,_) =>
  some i1
theorem qnF {x:(List Int)} (ha1:GoT.R w (old w) x cs1) {r:Int} (hF:qgM n x=some r):RetV Tryz.prog 314 [GoT.v (List Int) cs1] w r:=by
 obtain ⟨p1,k1,rfl,s1⟩:=ha1
 refine zV 25 Tryz.func314 rfl fun h=>X0 11 rfl ?_
 obtain ⟨KF1,hKF1,o2,hF,hK2⟩:=bindE hF
 refine qbp (fun e w'=>KF1 ()=some r∧e=[(0,.slice p1 x.length k1)]∧SH w w' []) ?_ ?_
 ·refine qh rfl hF ?_ ?_<;>intro hF
  ·refine qlE ?_
   cases hF
  refine qhN ?_
  obtain rfl:=qb hF
  exact rG ⟨hK2,rfl,h⟩ rfl
 rintro e2 w2 ⟨hF,rfl,h⟩
 subst hKF1
 refine X0 3 rfl ?_
 obtain ⟨y1,hy1,hF,he1,b1,_,q1,cs2,hp1,hq1,rfl,hc1⟩:=s1.ix hF
 refine zxe hp1 hq1 he1 rfl (zc 0 (hc1.below h.below) rfl (X0 7 rfl ?_))
 obtain ⟨o1,hF,hK1⟩:=qc hF
 refine qm (rL (fun m e w'=>∃ (i1:Int) (i2:Int),qcQ x m i1 i2=some o1∧e=[(0,.slice p1 x.length k1),(3,.int .i64 i1),(4,.int .i64 i2)]∧SH w w' []) n ⟨_,_,hF,rfl,h⟩ rfl ?_)
 rintro m1 e1 w1 ⟨i1,i2,hF,rfl,h⟩
 rcases m1 with _|m1
 ·cases hF
 refine X0 8 rfl (qh rfl hF ?_ ?_)<;>intro hF
 ·refine X0 7 rfl ?_
  obtain ⟨y2,hy2,hF,he2,b2,_,q2,cs3,hp2,hq2,rfl,hc3⟩:=s1.ix hF
  exact zxe hp2 hq2 he2 rfl (zc 0 (hc3.below h.below) rfl (X0 9 rfl (rK ⟨_,_,hF,rfl,h⟩ rfl)))
 refine qu rfl ?_
 obtain rfl:=qb hF;replace hF:=hK1
 exact X0 5 rfl (ri h hF rfl)
def qgR (n:Nat) (t:qx) (v0:Bool):Option Bool :=
 (qj2 n t).bind fun r1 =>
 bif (!r1) then some true else
 bif v0 then
  (qgM n t.Bh).bind fun r2 =>
  some (decide (r2<0))
 else
  some false
theorem qnD {t:qx} {v0:Bool} (ha1:GoT.R w (old w) t cs1) {p4:Option Addr} (ha2:GoT.R w (old w) (some v0) [.pointer p4]) {r:Bool} (hF:qgR n t v0=some r):RetV Tryz.prog 312 [GoT.v qx cs1,.pointer p4] w r:=by
 obtain ⟨p1,k1,p2,k2,p3,k3,rfl,s1,s2,s3⟩:=qaE ha1
 obtain ⟨b1,o_1,cs2,rfl,-,hr1,hc1⟩:=PtR.get ha2 rfl
 obtain rfl:=hr1
 refine zV 16 Tryz.func312 rfl fun h=>zSR (qw h rfl rfl fun w1 bb1 h=>X1 5 0 h rfl (zcB h hF (qp0 (h.old ha1)) rfl fun r1 w2 h hF=>zp2 rfl (qi (t:=7) hF rfl ?_ ?_)))<;>intro hF
 ·exact X0 10 rfl (rb h hF rfl)
 refine X0 1 rfl (zc 0 (hc1.below h.below) rfl (X0 2 rfl (qi (t:=9) hF rfl ?_ ?_)))<;>intro hF
 ·exact X1 5 0 h rfl (zcI h hF (qnF ⟨_,_,rfl,(h.oldS s3)⟩) rfl fun r2 w3 h hF=>X0 7 rfl (rb h hF rfl))
 exact X0 9 rfl (rb h hF rfl)
def qL (s:(List qx)) (f_0:Bool):Nat→Int→Option (Flow Int Int)
 | 0,_=>none
 | n+1,i1 =>
  bif decide (i1<(s.length:Int)) then
   (idx s i1).bind fun y1 =>
   (qgR n y1 f_0).bind fun r1 =>
   bif r1 then some (.ret i1) else
   qL s f_0 n (W64 (i1+1))
  else
   some (.nxt i1)
def qaC (n:Nat) (s:(List qx)) (f_0:Bool):Option Int :=
 (qL s f_0 n 0).bind fun o=>match o with
 | .ret r=>some r
 | .nxt _ =>
  some (-1)
theorem qeK {s:(List qx)} {f_0:Bool} (ha1:GoT.R w (old w) s cs1) {p2:Option Addr} (ha2:GoT.R w (old w) (some f_0) [.pointer p2]) {r:Int} (hF:qaC n s f_0=some r):RetV Tryz.prog 317 [GoT.v (List qx) cs1,.func (.func 312) #[] #[.pointer p2]] w r:=by
 obtain ⟨p1,k1,rfl,s1⟩:=ha1
 obtain ⟨b1,o_1,cs2,rfl,-,hr1,hc1⟩:=PtR.get ha2 rfl
 obtain rfl:=hr1
 refine zV 19 Tryz.func317 rfl fun h=>X0 11 rfl ?_
 obtain ⟨o1,hF,hK1⟩:=qc hF
 refine qm (rL (fun m e w'=>∃ (i1:Int),qL s f_0 m i1=some o1∧e=[(0,.slice p1 s.length k1),(1,.func (.func 312) #[] #[.pointer (some ⟨b1,o_1,none⟩)]),(7,.int .i64 (s.length:Int)),(8,.int .i64 i1)]∧SH w w' []) n ⟨_,hF,rfl,h⟩ rfl ?_)
 rintro m1 e1 w1 ⟨i1,hF,rfl,h⟩
 rcases m1 with _|m1
 ·cases hF
 refine X0 5 rfl (qh rfl hF ?_ ?_)<;>intro hF
 ·refine X0 13 rfl ?_
  obtain ⟨y1,hy1,hF,he1,b2,_,q1,cs3,hp1,hq1,hr2,hc3⟩:=s1.ix hF
  obtain ⟨p3,k2,p4,k3,p5,k4,rfl,s2,s3,s4⟩:=qaE hr2
  refine zxe hp1 hq1 he1 rfl (zc 0 (hc3.below h.below) rfl (zcB h hF (qnD (qe4 y1 (h.oldS s2) (h.oldS s3) (h.oldS s4)) (h.old ha2)) rfl fun r1 w2 h hF=>qcw (qh rfl hF ?_ ?_)))<;>intro hF
  ·refine X0 5 rfl ?_
   obtain rfl:=qb hF;replace hF:=hK1
   exact ri h hF rfl
  exact X0 6 rfl (rK ⟨_,hF,rfl,h⟩ rfl)
 refine qu rfl ?_
 obtain rfl:=qb hF;replace hF:=hK1
 exact X0 4 rfl (ri h hF rfl)
def qaY (n:Nat) (s:(List qx)) (f_0:Bool):Option Bool :=
 (qaC n s f_0).bind fun r1 =>
 some (decide (r1 ≥ 0))
theorem qel {s:(List qx)} {f_0:Bool} (ha1:GoT.R w (old w) s cs1) {p2:Option Addr} (ha2:GoT.R w (old w) (some f_0) [.pointer p2]) {r:Bool} (hF:qaY n s f_0=some r):RetV Tryz.prog 311 [GoT.v (List qx) cs1,.func (.func 312) #[] #[.pointer p2]] w r:=by
 obtain ⟨p1,k1,rfl,s1⟩:=ha1
 obtain ⟨b1,o_1,cs2,rfl,-,hr1,hc1⟩:=PtR.get ha2 rfl
 obtain rfl:=hr1
 exact zV 9 Tryz.func311 rfl fun h=>X0 8 rfl (zcI h hF (qeK ⟨_,_,rfl,(h.oldS s1)⟩ (h.old ha2)) rfl fun r1 w1 h hF=>X0 3 rfl (rb h hF rfl))
def qfk (n:Nat) (list:(List qx)) (positive:Bool):Option Bool :=
 bif ((list.length:Int)==2) then
  (qaY n list positive).bind fun r1 =>
  some (!r1)
 else
  some false
theorem qij {list:(List qx)} {positive:Bool} (ha1:GoT.R w (old w) list cs1) {r:Bool} (hF:qfk n list positive=some r):RetV Tryz.prog 302 [GoT.v (List qx) cs1,.bool positive] w r:=by
 obtain ⟨p1,k1,rfl,s1⟩:=ha1
 refine zV 14 Tryz.func302 rfl fun h=>zSR (qw h rfl rfl fun w1 bb1 h=>X0 8 rfl (qi (t:=8) hF rfl ?_ ?_))<;>intro hF
 ·exact X0 5 rfl (zcB h hF (qel ⟨_,_,rfl,(h.oldS s1)⟩ (qgF (x:=positive) 0 h rfl rfl)) rfl fun r1 w2 h hF=>X0 5 rfl (rb h hF rfl))
 exact X0 7 rfl (rb h hF rfl)
def qiC (_:Nat) (p:qaq):Option Bool :=
 some p.Bq
theorem qmU {p:qaq} (ha1:GoT.R w (old w) p cs1) {r:Bool} (hF:qiC n p=some r):RetV Tryz.prog 316 [GoT.v qaq cs1] w r:=by
 obtain rfl:=qbt ha1
 exact zV 5 Tryz.func316 rfl fun h=>zSR (qw h rfl rfl fun w1 bb1 h=>X1 8 0 h rfl (rb h hF rfl))
def qT (s:(List qaq)):Nat→Int→Option (Flow Int Int)
 | 0,_=>none
 | n+1,i1 =>
  bif decide (i1<(s.length:Int)) then
   (idx s i1).bind fun y1 =>
   (qiC n y1).bind fun r1 =>
   bif r1 then some (.ret i1) else
   qT s n (W64 (i1+1))
  else
   some (.nxt i1)
def qbq (n:Nat) (s:(List qaq)):Option Int :=
 (qT s n 0).bind fun o=>match o with
 | .ret r=>some r
 | .nxt _ =>
  some (-1)
theorem qe6 {s:(List qaq)} (ha1:GoT.R w (old w) s cs1) {r:Int} (hF:qbq n s=some r):RetV Tryz.prog 315 [GoT.v (List qaq) cs1,.func (.func 316) #[] #[]] w r:=by
 obtain ⟨p1,k1,rfl,s1⟩:=ha1
 refine zV 19 Tryz.func315 rfl fun h=>X0 11 rfl ?_
 obtain ⟨o1,hF,hK1⟩:=qc hF
 refine qm (rL (fun m e w'=>∃ (i1:Int),qT s m i1=some o1∧e=[(0,.slice p1 s.length k1),(1,.func (.func 316) #[] #[]),(7,.int .i64 (s.length:Int)),(8,.int .i64 i1)]∧SH w w' []) n ⟨_,hF,rfl,h⟩ rfl ?_)
 rintro m1 e1 w1 ⟨i1,hF,rfl,h⟩
 rcases m1 with _|m1
 ·cases hF
 refine X0 5 rfl (qh rfl hF ?_ ?_)<;>intro hF
 ·refine X0 13 rfl ?_
  obtain ⟨y1,hy1,hF,he1,b1,_,q1,cs2,hp1,hq1,hr1,hc2⟩:=s1.ix hF
  obtain rfl:=qbt hr1
  refine zxe hp1 hq1 he1 rfl (zc 0 (hc2.below h.below) rfl (zcB h hF (qmU (qjz y1)) rfl fun r1 w2 h hF=>qcw (qh rfl hF ?_ ?_)))<;>intro hF
  ·refine X0 5 rfl ?_
   obtain rfl:=qb hF;replace hF:=hK1
   exact ri h hF rfl
  exact X0 6 rfl (rK ⟨_,hF,rfl,h⟩ rfl)
 refine qu rfl ?_
 obtain rfl:=qb hF;replace hF:=hK1
 exact X0 4 rfl (ri h hF rfl)
def qhw (n:Nat) (c:qB):Option Int :=
 (qbq n c.Be).bind fun r1 =>
 some r1
theorem qnQ {c:qB} (ha1:GoT.R w (old w) c cs1) {r:Int} (hF:qhw n c=some r):RetV Tryz.prog 303 [GoT.v qB cs1] w r:=by
 obtain ⟨p1,k1,p2,k2,p3,k3,rfl,s1,s2,s3⟩:=qad ha1
 exact zV 6 Tryz.func303 rfl fun h=>zSR (qw h rfl rfl fun w1 bb1 h=>X1 6 0 h rfl (zcI h hF (qe6 ⟨_,_,rfl,(h.oldS s1)⟩) rfl fun r1 w2 h hF=>X0 2 rfl (ri h hF rfl)))
def qgj (n:Nat) (c:qB) (pin:Int):Option Bool :=
 (qd4 n c).bind fun r1 =>
 (qaH n pin 0 (W64 (r1-1))).bind fun r2 =>
 some r2
theorem qjn {c:qB} {pin:Int} (ha1:GoT.R w (old w) c cs1) {r:Bool} (hF:qgj n c pin=some r):RetV Tryz.prog 304 [GoT.v qB cs1,.int .i64 pin] w r:=by
 obtain ⟨p1,k1,p2,k2,p3,k3,rfl,s1,s2,s3⟩:=qad ha1
 exact zV 10 Tryz.func304 rfl fun h=>zSR (qw h rfl rfl fun w1 bb1 h=>X1 6 0 h rfl (zcI h hF (qhb (h.old ha1)) rfl fun r1 w2 h hF=>zp1 rfl (zcB h hF qax rfl fun r2 w3 h hF=>X0 2 rfl (rb h hF rfl))))
end Go.Fw


namespace Go.Fw
open Go Go.Proofs
open Go.RowKit (Below)
set_option maxRecDepth 100000
set_option maxHeartbeats 1600000
variable {n:Nat} {w:World} {cs1 cs2 cs3 cs4 cs5 cs6 cs7 cs8 cs9:List Value}
def qhy (n:Nat) (a_0:qB) (a_1:qP):Option Bool :=
 (qjY n a_1.Bf).bind fun r1 =>
 bif r1 then
  (
   bif (a_1.Bn==0) then
    bif ((a_1.Bc.length:Int)==0) then
     (qfk n a_1.Bp false).bind fun r2 =>
     bif r2 then
      (qhw n a_0).bind fun r3 =>
      bif (a_1.Bk==r3) then
       bif decide (a_1.Bk ≥ 0) then
        (qgj n a_0 a_1.To).bind fun r4 =>
        bif r4 then some (a_1.To != a_1.Bk) else
        some false
       else
        some false
      else
       some false
     else
      some false
    else
     some false
   else
    some false).bind fun b1 =>
  some b1
 else
  (
   (qfk n a_1.Bp true).bind fun r6 =>
   bif (!r6) then some true else
   (qfk n a_1.Bc true).bind fun r7 =>
   bif (!r7) then some true else
   (qd4 n a_0).bind fun r8 =>
   bif (a_1.To != r8) then some true else
   (qgj n a_0 a_1.Bk).bind fun r9 =>
   some (!r9)).bind fun b2 =>
  bif b2 then some false else
  bif (a_1.Bf==1) then
   (idx a_0.Be a_1.Bk).bind fun y1 =>
   bif (!y1.Bq) then
    (qaH n a_1.Bn 1 3).bind fun r5 =>
    some r5
   else
    some false
  else
   (
    bif (a_1.Bf==2) then some (a_1.Bf==2) else
    some (a_1.Bf==3)).bind fun b4 =>
   bif b4 then
    (idx a_0.Be a_1.Bk).bind fun y2 =>
    bif y2.Bq then some (a_1.Bn==0) else
    some false
   else
    some false
theorem qnN {a_0:qB} {a_1:qP} (ha1:GoT.R w (old w) a_0 cs1) (ha2:GoT.R w (old w) a_1 cs2) {r:Bool} (hF:qhy n a_0 a_1=some r):RetV Tryz.prog 291 [GoT.v qB cs1,GoT.v qP cs2] w r:=by
 obtain ⟨p1,k1,p2,k2,p3,k3,rfl,s1,s2,s3⟩:=qad ha1
 obtain ⟨p4,k4,p5,k5,rfl,s4,s5⟩:=qag ha2
 refine zV 103 Tryz.func291 rfl fun h=>zSR (qw h rfl rfl fun w1 bb1 h=>qw h rfl rfl fun w2 bb2 h=>X1 7 0 h rfl (zcB h hF qpT rfl fun r1 w3 h hF=>qcw (qh rfl hF ?_ ?_)))<;>intro hF
 ·refine qcJ ?_
  obtain ⟨KF1,hKF1,o1,hF,hK1⟩:=bindE hF
  refine qbp (fun e w'=>∃ (b1:Bool),KF1 b1=some r∧e=[(4,.bool b1)]∧SH w w' []) ?_ ?_
  ·refine rD (Y1 2 0 h rfl ?_)
   refine zd2 rfl (qaL (t:=11) hF rfl ?_ ?_)<;>intro hF
   ·refine Y1 4 0 h rfl ?_
    refine Y0 6 rfl (qaL (t:=17) hF rfl ?_ ?_)<;>intro hF
    ·refine Y1 4 0 h rfl ?_
     refine Y0 1 rfl ?_
     obtain ⟨r2,hr2,hF⟩:=qc hF
     refine qaQ r2 (vsB _) (cB 302 rfl) (fun _ hb=>qij ⟨_,_,rfl,((h.ext hb).oldS s4)⟩ hr2) rfl rfl rfl rfl (zd2 rfl (qaL (t:=22) hF rfl ?_ ?_))<;>intro hF
     ·refine Y1 4 0 h rfl ?_
      refine Y1 2 1 h rfl ?_
      refine Y0 1 rfl ?_
      obtain ⟨r3,hr3,hF⟩:=qc hF
      refine qaQ r3 (vsI _) (cB 303 rfl) (fun _ hb=>qnQ ((h.ext hb).old ha1) hr3) rfl rfl rfl rfl (Y0 4 rfl (qaL (t:=29) hF rfl ?_ ?_))<;>intro hF
      ·refine Y1 4 0 h rfl ?_
       refine Y0 4 rfl (qaL (t:=34) hF rfl ?_ ?_)<;>intro hF
       ·refine Y1 2 1 h rfl ?_
        refine Y1 4 0 h rfl ?_
        refine Y0 1 rfl ?_
        obtain ⟨r4,hr4,hF⟩:=qc hF
        refine qaQ r4 (vsB _) (cB 304 rfl) (fun _ hb=>qjn ((h.ext hb).old ha1) hr4) rfl rfl rfl rfl (zd2 rfl (qaL (t:=40) hF rfl ?_ ?_))<;>intro hF
        ·refine Y1 4 0 h rfl ?_
         refine Y1 4 0 h rfl ?_
         refine Y0 4 rfl (dN h fun w4 h=>?_)
         replace h:=h.pick [] rfl
         obtain rfl:=qb hF
         exact rG ⟨_,hK1,rfl,h⟩ rfl
        refine Y0 7 rfl (dN h fun w5 h=>?_)
        replace h:=h.pick [] rfl
        obtain rfl:=qb hF
        exact rG ⟨_,hK1,rfl,h⟩ rfl
       refine Y0 13 rfl (dN h fun w6 h=>?_)
       replace h:=h.pick [] rfl
       obtain rfl:=qb hF
       exact rG ⟨_,hK1,rfl,h⟩ rfl
      refine Y0 18 rfl (dN h fun w7 h=>?_)
      replace h:=h.pick [] rfl
      obtain rfl:=qb hF
      exact rG ⟨_,hK1,rfl,h⟩ rfl
     refine Y0 25 rfl (dN h fun w8 h=>?_)
     replace h:=h.pick [] rfl
     obtain rfl:=qb hF
     exact rG ⟨_,hK1,rfl,h⟩ rfl
    refine Y0 30 rfl (dN h fun w9 h=>?_)
    replace h:=h.pick [] rfl
    obtain rfl:=qb hF
    exact rG ⟨_,hK1,rfl,h⟩ rfl
   refine Y0 36 rfl (dN h fun w10 h=>?_)
   replace h:=h.pick [] rfl
   obtain rfl:=qb hF
   exact rG ⟨_,hK1,rfl,h⟩ rfl
  rintro e1 w11 ⟨b1,hF,rfl,h⟩
  subst hKF1
  exact rb h hF rfl
 refine zKSS ?_
 obtain ⟨KF3,hKF3,o3,hF,hK3⟩:=bindE hF
 refine qbp (fun e w'=>∃ (b2:Bool),KF3 b2=some r∧e=[(2,.pointer (some ⟨bb1,0,none⟩)),(3,.pointer (some ⟨bb2,0,none⟩)),(70,.bool b2)]∧SH w w' [Ch.box bb2 (qgw a_1 p4 p5 k4 k5) 173,Ch.box bb1 (qdT a_0 p1 p2 p3 k1 k2 k3) 168]) ?_ ?_
 ·refine rD (Y1 2 0 h rfl ?_)
  obtain ⟨r6,hr8,hF⟩:=qc hF
  refine qaQ r6 (vsB _) (cB 302 rfl) (fun _ hb=>qij ⟨_,_,rfl,((h.ext hb).oldS s4)⟩ hr8) rfl rfl rfl rfl (zd2 rfl (qaL (t:=51) hF rfl ?_ ?_))<;>intro hF
  ·refine Y0 19 rfl (dN h fun w14 h=>?_)
   obtain rfl:=qb hF
   exact rG ⟨_,hK3,rfl,h⟩ rfl
  refine Y1 4 0 h rfl ?_
  refine Y0 1 rfl ?_
  obtain ⟨r7,hr9,hF⟩:=qc hF
  refine qaQ r7 (vsB _) (cB 302 rfl) (fun _ hb=>qij ⟨_,_,rfl,((h.ext hb).oldS s5)⟩ hr9) rfl rfl rfl rfl (Y0 4 rfl (qaL (t:=57) hF rfl ?_ ?_))<;>intro hF
  ·refine Y0 13 rfl (dN h fun w15 h=>?_)
   obtain rfl:=qb hF
   exact rG ⟨_,hK3,rfl,h⟩ rfl
  refine Y1 4 0 h rfl ?_
  refine Y1 2 1 h rfl ?_
  refine Y0 1 rfl ?_
  obtain ⟨r8,hr10,hF⟩:=qc hF
  refine qaQ r8 (vsI _) (cB 294 rfl) (fun _ hb=>qhb ((h.ext hb).old ha1) hr10) rfl rfl rfl rfl (Y0 4 rfl (qaL (t:=64) hF rfl ?_ ?_))<;>intro hF
  ·refine Y0 6 rfl (dN h fun w16 h=>?_)
   obtain rfl:=qb hF
   exact rG ⟨_,hK3,rfl,h⟩ rfl
  refine Y1 2 1 h rfl ?_
  refine Y1 4 0 h rfl ?_
  refine Y0 1 rfl ?_
  obtain ⟨r9,hr11,hF⟩:=qc hF
  refine qaQ r9 (vsB _) (cB 304 rfl) (fun _ hb=>qjn ((h.ext hb).old ha1) hr11) rfl rfl rfl rfl (Y0 3 rfl (dN h fun w17 h=>?_))
  obtain rfl:=qb hF
  exact rG ⟨_,hK3,rfl,h⟩ rfl
 rintro e3 w18 ⟨b2,hF,rfl,h⟩
 subst hKF3
 refine qh rfl hF ?_ ?_<;>intro hF
 ·exact X0 4 rfl (rb h hF rfl)
 refine X1 13 0 h rfl (qh rfl hF ?_ ?_)<;>intro hF
 ·refine X2 6 1 0 h rfl ?_
  obtain ⟨y1,hy1,hF,he1,b3,_,q1,cs3,hp1,hq1,hr5,hc4⟩:=s1.ix hF
  obtain rfl:=qbt hr5
  refine zxe hp1 hq1 he1 rfl (zp1 rfl (zc 3 (hc4.below h.below) rfl (zp2 rfl (qi (t:=83) hF rfl ?_ ?_))))<;>intro hF
  ·exact X1 5 0 h rfl (zcB h hF qax rfl fun r5 w12 h hF=>X0 3 rfl (rb h hF rfl))
  exact X0 6 rfl (rb h hF rfl)
 refine X0 6 rfl ?_
 obtain ⟨KF2,hKF2,o2,hF,hK2⟩:=bindE hF
 refine qbp (fun e w'=>∃ (b4:Bool),KF2 b4=some r∧e=[(2,.pointer (some ⟨bb1,0,none⟩)),(3,.pointer (some ⟨bb2,0,none⟩)),(88,.bool b4)]∧SH w w' [Ch.box bb2 (qgw a_1 p4 p5 k4 k5) 173,Ch.box bb1 (qdT a_0 p1 p2 p3 k1 k2 k3) 168]) ?_ ?_
 ·refine qh rfl hF ?_ ?_<;>intro hF
  ·refine qhN ?_
   obtain rfl:=qb hF
   exact rG ⟨_,hK2,rfl,h⟩ rfl
  refine X0 4 rfl ?_
  obtain rfl:=qb hF
  exact rG ⟨_,hK2,rfl,h⟩ rfl
 rintro e2 w13 ⟨b4,hF,rfl,h⟩
 subst hKF2
 refine qh rfl hF ?_ ?_<;>intro hF
 ·refine X2 6 1 0 h rfl ?_
  obtain ⟨y2,hy2,hF,he2,b5,_,q2,cs4,hp2,hq2,hr7,hc6⟩:=s1.ix hF
  obtain rfl:=qbt hr7
  refine zxe hp2 hq2 he2 rfl (zp1 rfl (zc 3 (hc6.below h.below) rfl (zp1 rfl (qi (t:=98) hF rfl ?_ ?_))))<;>intro hF
  ·exact X1 9 0 h rfl (rb h hF rfl)
  exact X0 6 rfl (rb h hF rfl)
 exact X0 6 rfl (rb h hF rfl)
def qfa (_:Nat) (a_o:qP) (v0:qP):Option Bool :=
 bif (a_o.Bf==v0.Bf) then
  bif (a_o.Bk==v0.Bk) then some (a_o.To==v0.To) else
  some false
 else
  some false
theorem qlW {a_o:qP} {v0:qP} (ha1:GoT.R w (old w) a_o cs1) {p3:Option Addr} (ha2:GoT.R w (old w) (some v0) [.pointer p3]) {r:Bool} (hF:qfa n a_o v0=some r):RetV Tryz.prog 293 [GoT.v qP cs1,.pointer p3] w r:=by
 obtain ⟨p1,k1,p2,k2,rfl,s1,s2⟩:=qag ha1
 obtain ⟨b1,o_1,cs2,rfl,-,hr1,hc1⟩:=PtR.get ha2 rfl
 obtain ⟨p4,k3,p5,k4,rfl,s3,s4⟩:=qag hr1
 refine zV 23 Tryz.func293 rfl fun h=>zSR (qw h rfl rfl fun w1 bb1 h=>X1 7 0 h rfl (zc 0 (hc1.below h.below) rfl (zp2 rfl (qi (t:=9) hF rfl ?_ ?_))))<;>intro hF
 ·refine X1 7 0 h rfl (zc 1 (hc1.below h.below) rfl (X0 4 rfl (qi (t:=16) hF rfl ?_ ?_)))<;>intro hF
  ·exact X1 7 0 h rfl (zc 2 (hc1.below h.below) rfl (X0 5 rfl (rb h hF rfl)))
  exact X0 8 rfl (rb h hF rfl)
 exact X0 15 rfl (rb h hF rfl)
def qK (s:(List qP)) (f_0:qP):Nat→Int→Option (Flow Int Int)
 | 0,_=>none
 | n+1,i1 =>
  bif decide (i1<(s.length:Int)) then
   (idx s i1).bind fun y1 =>
   (qfa n y1 f_0).bind fun r1 =>
   bif r1 then some (.ret i1) else
   qK s f_0 n (W64 (i1+1))
  else
   some (.nxt i1)
def qa6 (n:Nat) (s:(List qP)) (f_0:qP):Option Int :=
 (qK s f_0 n 0).bind fun o=>match o with
 | .ret r=>some r
 | .nxt _ =>
  some (-1)
theorem qeu {s:(List qP)} {f_0:qP} (ha1:GoT.R w (old w) s cs1) {p2:Option Addr} (ha2:GoT.R w (old w) (some f_0) [.pointer p2]) {r:Int} (hF:qa6 n s f_0=some r):RetV Tryz.prog 305 [GoT.v (List qP) cs1,.func (.func 293) #[] #[.pointer p2]] w r:=by
 obtain ⟨p1,k1,rfl,s1⟩:=ha1
 obtain ⟨b1,o_1,cs2,rfl,-,hr1,hc1⟩:=PtR.get ha2 rfl
 obtain ⟨p3,k2,p4,k3,rfl,s2,s3⟩:=qag hr1
 refine zV 19 Tryz.func305 rfl fun h=>X0 11 rfl ?_
 obtain ⟨o1,hF,hK1⟩:=qc hF
 refine qm (rL (fun m e w'=>∃ (i1:Int),qK s f_0 m i1=some o1∧e=[(0,.slice p1 s.length k1),(1,.func (.func 293) #[] #[.pointer (some ⟨b1,o_1,none⟩)]),(7,.int .i64 (s.length:Int)),(8,.int .i64 i1)]∧SH w w' []) n ⟨_,hF,rfl,h⟩ rfl ?_)
 rintro m1 e1 w1 ⟨i1,hF,rfl,h⟩
 rcases m1 with _|m1
 ·cases hF
 refine X0 5 rfl (qh rfl hF ?_ ?_)<;>intro hF
 ·refine X0 13 rfl ?_
  obtain ⟨y1,hy1,hF,he1,b2,_,q1,cs3,hp1,hq1,hr2,hc3⟩:=s1.ix hF
  obtain ⟨p5,k4,p6,k5,rfl,s4,s5⟩:=qag hr2
  refine zxe hp1 hq1 he1 rfl (zc 0 (hc3.below h.below) rfl (zcB h hF (qlW (qfe y1 (h.oldS s4) (h.oldS s5)) (h.old ha2)) rfl fun r1 w2 h hF=>qcw (qh rfl hF ?_ ?_)))<;>intro hF
  ·refine X0 5 rfl ?_
   obtain rfl:=qb hF;replace hF:=hK1
   exact ri h hF rfl
  exact X0 6 rfl (rK ⟨_,hF,rfl,h⟩ rfl)
 refine qu rfl ?_
 obtain rfl:=qb hF;replace hF:=hK1
 exact X0 4 rfl (ri h hF rfl)
def qau (n:Nat) (s:(List qP)) (f_0:qP):Option Bool :=
 (qa6 n s f_0).bind fun r1 =>
 some (decide (r1 ≥ 0))
theorem qee {s:(List qP)} {f_0:qP} (ha1:GoT.R w (old w) s cs1) {p2:Option Addr} (ha2:GoT.R w (old w) (some f_0) [.pointer p2]) {r:Bool} (hF:qau n s f_0=some r):RetV Tryz.prog 292 [GoT.v (List qP) cs1,.func (.func 293) #[] #[.pointer p2]] w r:=by
 obtain ⟨p1,k1,rfl,s1⟩:=ha1
 obtain ⟨b1,o_1,cs2,rfl,-,hr1,hc1⟩:=PtR.get ha2 rfl
 obtain ⟨p3,k2,p4,k3,rfl,s2,s3⟩:=qag hr1
 exact zV 9 Tryz.func292 rfl fun h=>X0 8 rfl (zcI h hF (qeu ⟨_,_,rfl,(h.oldS s1)⟩ (h.old ha2)) rfl fun r1 w1 h hF=>X0 3 rfl (rb h hF rfl))
def qcj (c:qB):Nat→Int→Option (Flow Bool Int)
 | 0,_=>none
 | n+1,i1 =>
  bif decide (i1<(c.Av.length:Int)) then
   (idx c.Av i1).bind fun y1 =>
   (qhy n c y1).bind fun r1 =>
   bif (!r1) then some (.ret false) else
   (subS c.Av 0 i1).bind fun x1 =>
   (qau n x1 y1).bind fun r2 =>
   bif r2 then some (.ret false) else
   qcj c n (W64 (i1+1))
  else
   some (.nxt i1)
def qgm (n:Nat) (c:qB):Option Bool :=
 (qcj c n 0).bind fun o=>match o with
 | .ret r=>some r
 | .nxt _ =>
  some (decide ((c.Av.length:Int)≤8))
theorem qmR {c:qB} (ha1:GoT.R w (old w) c cs1) {r:Bool} (hF:qgm n c=some r):RetV Tryz.prog 281 [GoT.v qB cs1] w r:=by
 obtain ⟨p1,k1,p2,k2,p3,k3,rfl,s1,s2,s3⟩:=qad ha1
 refine zV 30 Tryz.func281 rfl fun h=>zSR (qw h rfl rfl fun w1 bb1 h=>X1 10 0 h rfl ?_)
 obtain ⟨o1,hF,hK1⟩:=qc hF
 refine qm (rL (fun m e w'=>∃ (i1:Int),qcj c m i1=some o1∧e=[(1,.pointer (some ⟨bb1,0,none⟩)),(6,.slice p2 c.Av.length k2),(7,.int .i64 (c.Av.length:Int)),(8,.int .i64 i1)]∧SH w w' [Ch.box bb1 (qdT c p1 p2 p3 k1 k2 k3) 168]) n ⟨_,hF,rfl,h⟩ rfl ?_)
 rintro m1 e1 w2 ⟨i1,hF,rfl,h⟩
 rcases m1 with _|m1
 ·cases hF
 refine X0 5 rfl (qh rfl hF ?_ ?_)<;>intro hF
 ·refine X0 6 rfl ?_
  obtain ⟨y1,hy1,hF,he1,b1,_,q1,cs2,hp1,hq1,hr1,hc2⟩:=s2.ix hF
  obtain ⟨p4,k4,p5,k5,rfl,s4,s5⟩:=qag hr1
  refine zxe hp1 hq1 he1 rfl (zc 0 (hc2.below h.below) rfl (qj qa h rfl rfl rfl fun w3 bb2 h=>zp1 rfl (zs 0 h rfl fun w4 h=>X2 5 1 0 h rfl (zcB h hF (qnN (h.old ha1) (qfe y1 (h.oldS s4) (h.oldS s5))) rfl fun r1 w5 h hF=>zp2 rfl (qi (t:=17) hF rfl ?_ ?_)))))<;>intro hF
  ·refine X0 8 rfl (qbX rfl rfl (X0 4 rfl ?_))
   obtain rfl:=qb hF;replace hF:=hK1
   exact rb h hF rfl
  refine X1 7 1 h rfl ?_
  obtain ⟨x1,hx1,hF⟩:=qc hF
  obtain ⟨p6,k6,hp2,hk1,hl1,g1⟩:=qwt (h.oldS s2) hx1
  refine r_v (qs6 qa rfl rfl rfl (qwJ g1 rfl) hp2 hk1 hl1 rfl rfl rfl rfl) rfl ?_
  have s6:=qv1 s2 hx1 hp2 hk1
  refine X0 3 rfl (zcB h hF (qee ⟨_,_,rfl,(h.oldS s6)⟩ (qgF (x:=y1) 0 h rfl (qfe y1 (h.oldS s4) (h.oldS s5)))) rfl fun r2 w6 h hF=>X0 2 rfl (qh rfl hF ?_ ?_))<;>intro hF
  ·refine X0 4 rfl ?_
   obtain rfl:=qb hF;replace hF:=hK1
   exact rb h hF rfl
  refine X0 6 rfl ?_
  replace h:=h.pick [1] rfl
  exact rK ⟨_,hF,rfl,h⟩ rfl
 refine qu rfl ?_
 obtain rfl:=qb hF;replace hF:=hK1
 exact X1 8 0 h rfl (rb h hF rfl)
def qjG (_:Nat) (a:qP) (v0:Int):Option Bool :=
 some (a.Bf==v0)
theorem qn1 {a:qP} {v0:Int} (ha1:GoT.R w (old w) a cs1) {p3:Option Addr} (ha2:GoT.R w (old w) (some v0) [.pointer p3]) {r:Bool} (hF:qjG n a v0=some r):RetV Tryz.prog 306 [GoT.v qP cs1,.pointer p3] w r:=by
 obtain ⟨p1,k1,p2,k2,rfl,s1,s2⟩:=qag ha1
 obtain ⟨b1,o_1,cs2,rfl,-,hr1,hc1⟩:=PtR.get ha2 rfl
 obtain rfl:=hr1
 exact zV 8 Tryz.func306 rfl fun h=>zSR (qw h rfl rfl fun w1 bb1 h=>X1 6 0 h rfl (zc 0 (hc1.below h.below) rfl (X0 3 rfl (rb h hF rfl))))
def qZ (s:(List qP)) (f_0:Int):Nat→Int→Option (Flow Int Int)
 | 0,_=>none
 | n+1,i1 =>
  bif decide (i1<(s.length:Int)) then
   (idx s i1).bind fun y1 =>
   (qjG n y1 f_0).bind fun r1 =>
   bif r1 then some (.ret i1) else
   qZ s f_0 n (W64 (i1+1))
  else
   some (.nxt i1)
def qbw (n:Nat) (s:(List qP)) (f_0:Int):Option Int :=
 (qZ s f_0 n 0).bind fun o=>match o with
 | .ret r=>some r
 | .nxt _ =>
  some (-1)
theorem qfi {s:(List qP)} {f_0:Int} (ha1:GoT.R w (old w) s cs1) {p2:Option Addr} (ha2:GoT.R w (old w) (some f_0) [.pointer p2]) {r:Int} (hF:qbw n s f_0=some r):RetV Tryz.prog 305 [GoT.v (List qP) cs1,.func (.func 306) #[] #[.pointer p2]] w r:=by
 obtain ⟨p1,k1,rfl,s1⟩:=ha1
 obtain ⟨b1,o_1,cs2,rfl,-,hr1,hc1⟩:=PtR.get ha2 rfl
 obtain rfl:=hr1
 refine zV 19 Tryz.func305 rfl fun h=>X0 11 rfl ?_
 obtain ⟨o1,hF,hK1⟩:=qc hF
 refine qm (rL (fun m e w'=>∃ (i1:Int),qZ s f_0 m i1=some o1∧e=[(0,.slice p1 s.length k1),(1,.func (.func 306) #[] #[.pointer (some ⟨b1,o_1,none⟩)]),(7,.int .i64 (s.length:Int)),(8,.int .i64 i1)]∧SH w w' []) n ⟨_,hF,rfl,h⟩ rfl ?_)
 rintro m1 e1 w1 ⟨i1,hF,rfl,h⟩
 rcases m1 with _|m1
 ·cases hF
 refine X0 5 rfl (qh rfl hF ?_ ?_)<;>intro hF
 ·refine X0 13 rfl ?_
  obtain ⟨y1,hy1,hF,he1,b2,_,q1,cs3,hp1,hq1,hr2,hc3⟩:=s1.ix hF
  obtain ⟨p3,k2,p4,k3,rfl,s2,s3⟩:=qag hr2
  refine zxe hp1 hq1 he1 rfl (zc 0 (hc3.below h.below) rfl (zcB h hF (qn1 (qfe y1 (h.oldS s2) (h.oldS s3)) (h.old ha2)) rfl fun r1 w2 h hF=>qcw (qh rfl hF ?_ ?_)))<;>intro hF
  ·refine X0 5 rfl ?_
   obtain rfl:=qb hF;replace hF:=hK1
   exact ri h hF rfl
  exact X0 6 rfl (rK ⟨_,hF,rfl,h⟩ rfl)
 refine qu rfl ?_
 obtain rfl:=qb hF;replace hF:=hK1
 exact X0 4 rfl (ri h hF rfl)
def qbg (n:Nat) (s:(List qP)) (f_0:Int):Option Bool :=
 (qbw n s f_0).bind fun r1 =>
 some (decide (r1 ≥ 0))
theorem qe1 {s:(List qP)} {f_0:Int} (ha1:GoT.R w (old w) s cs1) {p2:Option Addr} (ha2:GoT.R w (old w) (some f_0) [.pointer p2]) {r:Bool} (hF:qbg n s f_0=some r):RetV Tryz.prog 292 [GoT.v (List qP) cs1,.func (.func 306) #[] #[.pointer p2]] w r:=by
 obtain ⟨p1,k1,rfl,s1⟩:=ha1
 obtain ⟨b1,o_1,cs2,rfl,-,hr1,hc1⟩:=PtR.get ha2 rfl
 obtain rfl:=hr1
 exact zV 9 Tryz.func292 rfl fun h=>X0 8 rfl (zcI h hF (qfi ⟨_,_,rfl,(h.oldS s1)⟩ (h.old ha2)) rfl fun r1 w1 h hF=>X0 3 rfl (rb h hF rfl))
def qdk (n:Nat) (c:qB) (kind:Int):Option Bool :=
 (qbg n c.Av kind).bind fun r1 =>
 some r1
theorem qea {c:qB} {kind:Int} (ha1:GoT.R w (old w) c cs1) {r:Bool} (hF:qdk n c kind=some r):RetV Tryz.prog 295 [GoT.v qB cs1,.int .i64 kind] w r:=by
 obtain ⟨p1,k1,p2,k2,p3,k3,rfl,s1,s2,s3⟩:=qad ha1
 exact zV 9 Tryz.func295 rfl fun h=>zSR (qw h rfl rfl fun w1 bb1 h=>qw h rfl rfl fun w2 bb2 h=>X1 7 1 h rfl (zcB h hF (qe1 ⟨_,_,rfl,(h.oldS s2)⟩ (qgF (x:=kind) 0 h rfl rfl)) rfl fun r1 w3 h hF=>X0 2 rfl (rb h hF rfl)))
def qa7 (a_0:qB):Nat→Int→Int→Option (Int × Int)
 | 0,_,_=>none
 | n+1,i1,i2 =>
  bif decide (i2<(a_0.Be.length:Int)) then
   (idx a_0.Be i2).bind fun y1 =>
   bif y1.Bq then qa7 a_0 n (W64 (i1+1)) (W64 (i2+1)) else
   qa7 a_0 n i1 (W64 (i2+1))
  else
   some (i1,i2)
def qfQ (n:Nat) (a_0:qB):Option Bool :=
 (qa7 a_0 n 0 0).bind fun o=>match o with
 | (i1,_) =>
  bif (a_0.Bf==1) then
   bif (i1==0) then
    (qd4 n a_0).bind fun r1 =>
    (shlS 1 r1).bind fun y2 =>
    bif ((a_0.Br.length:Int)==y2) then
     (qbN n a_0.Br 0 1).bind fun r2 =>
     some r2
    else
     some false
   else
    some false
  else
   bif (a_0.Bf==2) then
    bif (i1==1) then
     bif ((a_0.Br.length:Int)==0) then
      (qdk n a_0 1).bind fun r3 =>
      bif (!r3) then
       (qdk n a_0 2).bind fun r4 =>
       (qdk n a_0 3).bind fun r5 =>
       some (!(r4==r5))
      else
       some false
     else
      some false
    else
     some false
   else
    bif (a_0.Bf==3) then
     bif (i1==1) then
      bif ((a_0.Br.length:Int)==0) then
       (qdk n a_0 1).bind fun r6 =>
       bif r6 then
        (qdk n a_0 2).bind fun r7 =>
        bif r7 then
         (qdk n a_0 3).bind fun r8 =>
         some (!r8)
        else
         some false
       else
        some false
      else
       some false
     else
      some false
    else
     some false
theorem qmD {a_0:qB} (ha1:GoT.R w (old w) a_0 cs1) {r:Bool} (hF:qfQ n a_0=some r):RetV Tryz.prog 282 [GoT.v qB cs1] w r:=by
 obtain ⟨p1,k1,p2,k2,p3,k3,rfl,s1,s2,s3⟩:=qad ha1
 refine zV 83 Tryz.func282 rfl fun h=>zSR (qw h rfl rfl fun w1 bb1 h=>X1 14 0 h rfl ?_)
 obtain ⟨o1,hF,hK1⟩:=qc hF
 refine qm (rL (fun m e w'=>∃ (i1:Int) (i2:Int),qa7 a_0 m i1 i2=some o1∧e=[(1,.pointer (some ⟨bb1,0,none⟩)),(3,.int .i64 i1),(7,.slice p1 a_0.Be.length k1),(8,.int .i64 (a_0.Be.length:Int)),(9,.int .i64 i2)]∧SH w w' [Ch.box bb1 (qdT a_0 p1 p2 p3 k1 k2 k3) 168]) n ⟨_,_,hF,rfl,h⟩ rfl ?_)
 rintro m1 e1 w2 ⟨i1,i2,hF,rfl,h⟩
 rcases m1 with _|m1
 ·cases hF
 refine X0 5 rfl (qh rfl hF ?_ ?_)<;>intro hF
 ·refine zKSBSR ?_
  obtain ⟨y1,hy1,hF,he1,b1,_,q1,cs2,hp1,hq1,hr1,hc2⟩:=s1.ix hF
  obtain rfl:=qbt hr1
  refine zxe hp1 hq1 he1 rfl (zc 0 (hc2.below h.below) rfl (qj qa h rfl rfl rfl fun w3 bb2 h=>zs 0 h rfl fun w4 h=>X1 6 0 h rfl (qh rfl hF ?_ ?_)))<;>intro hF
  ·refine X0 10 rfl ?_
   replace h:=h.pick [1] rfl
   exact rK ⟨_,_,hF,rfl,h⟩ rfl
  refine X0 6 rfl ?_
  replace h:=h.pick [1] rfl
  exact rK ⟨_,_,hF,rfl,h⟩ rfl
 refine qu rfl ?_
 obtain rfl:=qb hF;replace hF:=hK1
 refine X1 12 0 h rfl (qh rfl hF ?_ ?_)<;>intro hF
 ·refine qcJ (rD (zd3 rfl (qaL (t:=24) hF rfl ?_ ?_)))<;>intro hF
  ·refine Y1 4 0 h rfl ?_
   refine Y1 4 0 h rfl ?_
   refine Y0 1 rfl ?_
   obtain ⟨r1,hr2,hF⟩:=qc hF
   refine qaQ r1 (vsI _) (cB 294 rfl) (fun _ hb=>qhb ((h.ext hb).old ha1) hr2) rfl rfl rfl rfl (Y0 1 rfl ?_)
   obtain ⟨y2,hx1,hF⟩:=qc hF
   obtain ⟨g1,hx1⟩:=qrJ hx1
   refine d_v (fun _ hb=>qyh g1 rfl rfl) rfl ?_
   rw [hx1]
   refine Y0 4 rfl (qaL (t:=33) hF rfl ?_ ?_)<;>intro hF
   ·refine Y1 4 0 h rfl ?_
    refine Y0 1 rfl ?_
    obtain ⟨r2,hr3,hF⟩:=qc hF
    exact qaQ r2 (vsB _) (cB 106 rfl) (fun _ hb=>qb6 ⟨_,_,rfl,((h.ext hb).oldS s3)⟩ hr3) rfl rfl rfl rfl (zd2 rfl (dN h fun w5 h=>rb h hF rfl))
   exact Y0 5 rfl (dN h fun w6 h=>rb h hF rfl)
  exact Y0 14 rfl (dN h fun w7 h=>rb h hF rfl)
 refine X0 5 rfl (qh rfl hF ?_ ?_)<;>intro hF
 ·refine qcJ (rD (zd3 rfl (qaL (t:=42) hF rfl ?_ ?_)))<;>intro hF
  ·refine Y1 4 0 h rfl ?_
   refine Y0 6 rfl (qaL (t:=48) hF rfl ?_ ?_)<;>intro hF
   ·refine Y1 2 0 h rfl ?_
    refine Y0 1 rfl ?_
    obtain ⟨r3,hr4,hF⟩:=qc hF
    refine qaQ r3 (vsB _) (cB 295 rfl) (fun _ hb=>qea ((h.ext hb).old ha1) hr4) rfl rfl rfl rfl (Y0 4 rfl (qaL (t:=53) hF rfl ?_ ?_))<;>intro hF
    ·refine Y1 2 0 h rfl ?_
     refine Y0 1 rfl ?_
     obtain ⟨r4,hr5,hF⟩:=qc hF
     refine qaQ r4 (vsB _) (cB 295 rfl) (fun _ hb=>qea ((h.ext hb).old ha1) hr5) rfl rfl rfl rfl (Y1 2 0 h rfl ?_)
     refine Y0 1 rfl ?_
     obtain ⟨r5,hr6,hF⟩:=qc hF
     exact qaQ r5 (vsB _) (cB 295 rfl) (fun _ hb=>qea ((h.ext hb).old ha1) hr6) rfl rfl rfl rfl (Y0 4 rfl (dN h fun w8 h=>rb h hF rfl))
    exact Y0 7 rfl (dN h fun w9 h=>rb h hF rfl)
   exact Y0 12 rfl (dN h fun w10 h=>rb h hF rfl)
  exact Y0 18 rfl (dN h fun w11 h=>rb h hF rfl)
 refine X0 5 rfl (qh rfl hF ?_ ?_)<;>intro hF
 ·refine X0 5 rfl (qi (t:=64) hF rfl ?_ ?_)<;>intro hF
  ·refine X1 10 0 h rfl (qi (t:=70) hF rfl ?_ ?_)<;>intro hF
   ·refine X1 3 0 h rfl (zcB h hF (qea (h.old ha1)) rfl fun r6 w12 h hF=>zp2 rfl (qi (t:=74) hF rfl ?_ ?_))<;>intro hF
    ·refine X1 3 0 h rfl (zcB h hF (qea (h.old ha1)) rfl fun r7 w13 h hF=>zp2 rfl (qi (t:=78) hF rfl ?_ ?_))<;>intro hF
     ·exact X1 3 0 h rfl (zcB h hF (qea (h.old ha1)) rfl fun r8 w14 h hF=>X0 5 rfl (rb h hF rfl))
     exact X0 6 rfl (rb h hF rfl)
    exact X0 10 rfl (rb h hF rfl)
   exact X0 14 rfl (rb h hF rfl)
  exact X0 20 rfl (rb h hF rfl)
 exact X0 6 rfl (rb h hF rfl)
def qk5 (n:Nat) (c:qB):Option Bool :=
 (qhQ n c.Bb).bind fun r1 =>
 bif r1 then
  (qjP n c.Be).bind fun r2 =>
  bif r2 then
   (qgm n c).bind fun r3 =>
   bif r3 then
    (qaH n c.Ca 0 100000).bind fun r4 =>
    bif r4 then
     (qaH n c.Bu 0 100000).bind fun r5 =>
     bif r5 then
      (qfQ n c).bind fun r6 =>
      some r6
     else
      some false
    else
     some false
   else
    some false
  else
   some false
 else
  some false
theorem qqk {c:qB} (ha1:GoT.R w (old w) c cs1) {r:Bool} (hF:qk5 n c=some r):RetV Tryz.prog 264 [GoT.v qB cs1] w r:=by
 obtain ⟨p1,k1,p2,k2,p3,k3,rfl,s1,s2,s3⟩:=qad ha1
 refine zV 29 Tryz.func264 rfl fun h=>zSR (qw h rfl rfl fun w1 bb1 h=>X1 6 0 h rfl (zcB h hF qkK rfl fun r1 w2 h hF=>zp1 rfl (qi (t:=6) hF rfl ?_ ?_)))<;>intro hF
 ·refine X1 5 0 h rfl (zcB h hF (qpz ⟨_,_,rfl,(h.oldS s1)⟩) rfl fun r2 w3 h hF=>zp2 rfl (qi (t:=11) hF rfl ?_ ?_))<;>intro hF
  ·refine X1 3 0 h rfl (zcB h hF (qmR (h.old ha1)) rfl fun r3 w4 h hF=>zp2 rfl (qi (t:=15) hF rfl ?_ ?_))<;>intro hF
   ·refine X1 5 0 h rfl (zcB h hF qax rfl fun r4 w5 h hF=>zp2 rfl (qi (t:=20) hF rfl ?_ ?_))<;>intro hF
    ·refine X1 5 0 h rfl (zcB h hF qax rfl fun r5 w6 h hF=>zp2 rfl (qi (t:=25) hF rfl ?_ ?_))<;>intro hF
     ·exact X1 3 0 h rfl (zcB h hF (qmD (h.old ha1)) rfl fun r6 w7 h hF=>X0 3 rfl (rb h hF rfl))
     exact X0 5 rfl (rb h hF rfl)
    exact X0 10 rfl (rb h hF rfl)
   exact X0 15 rfl (rb h hF rfl)
  exact X0 19 rfl (rb h hF rfl)
 exact X0 24 rfl (rb h hF rfl)
def qcA (l:qq):Nat→(List ByteArray)→Int→Option (Flow Bool ((List ByteArray) × Int))
 | 0,_,_=>none
 | n+1,x1,i1 =>
  bif decide (i1<(l.Au.length:Int)) then
   (idx l.Au i1).bind fun y1 =>
   (qk5 n y1).bind fun r1 =>
   bif (!r1) then some (.ret false) else
   (appS x1 ([y1.Bb]:List ByteArray)).bind fun x2 =>
   qcA l n x2 (W64 (i1+1))
  else
   some (.nxt (x1,i1))
def qie (n:Nat) (l:qq):Option Bool :=
 (qcA l n ([]:List ByteArray) 0).bind fun o=>match o with
 | .ret r=>some r
 | .nxt (x1,_) =>
  bif decide ((l.Au.length:Int)≤8) then
   (qd0 n x1).bind fun r2 =>
   some r2
  else
   some false
theorem qoy {l:qq} (ha1:GoT.R w (old w) l cs1) {r:Bool} (hF:qie n l=some r):RetV Tryz.prog 239 [GoT.v qq cs1] w r:=by
 obtain ⟨p1,k1,rfl,s1⟩:=qbz ha1
 refine zV 30 Tryz.func239 rfl fun h=>zSR (qw h rfl rfl fun w1 bb1 h=>X1 14 0 h rfl ?_)
 replace h:=h.nil (α:=ByteArray)
 obtain ⟨o1,hF,hK1⟩:=qc hF
 refine qm (rL (fun m e w'=>∃ (S1:Nat→Prop) (p2:Option Addr) (ln1:Nat) (k2:Nat) (x1:(List ByteArray)) (i1:Int),qcA l m x1 i1=some o1∧e=[(1,.pointer (some ⟨bb1,0,none⟩)),(3,.slice p2 ln1 k2),(7,.slice p1 l.Au.length k1),(8,.int .i64 (l.Au.length:Int)),(9,.int .i64 i1)]∧SH w w' [Ch.own S1 (x1:List ByteArray) [.slice p2 ln1 k2],Ch.box bb1 [.slice p1 l.Au.length k1] 44]) n ⟨_,_,_,_,_,_,hF,rfl,h⟩ rfl ?_)
 rintro m1 e1 w2 ⟨S1,p2,ln1,k2,x1,i1,hF,rfl,h⟩
 obtain rfl:=(h.sl 0 rfl).2
 rcases m1 with _|m1
 ·cases hF
 refine X0 5 rfl (qh rfl hF ?_ ?_)<;>intro hF
 ·refine zKSBSR ?_
  obtain ⟨y1,hy1,hF,he1,b1,_,q1,cs2,hp1,hq1,hr1,hc2⟩:=s1.ix hF
  obtain ⟨p3,k3,p4,k4,p5,k5,rfl,s2,s3,s4⟩:=qad hr1
  refine zxe hp1 hq1 he1 rfl (zc 0 (hc2.below h.below) rfl (qj qa h rfl rfl rfl fun w3 bb2 h=>zs 0 h rfl fun w4 h=>X1 5 0 h rfl (zcB h hF (qqk (qkf y1 (h.oldS s2) (h.oldS s3) (h.oldS s4))) rfl fun r1 w5 h hF=>X0 2 rfl (qh rfl hF ?_ ?_))))<;>intro hF
  ·refine X0 4 rfl ?_
   obtain rfl:=qb hF;replace hF:=hK1
   exact rb h hF rfl
  refine X1 5 0 h rfl (qI qa [.tmp 18] _ ([y1.Bb]:List ByteArray) h rfl rfl rfl rfl rfl rfl rfl rfl rfl ⟨rfl,trivial⟩ rfl fun w6 p6 S2 h=>?_)
  obtain ⟨x2,hx1,hF⟩:=qc hF
  obtain ⟨g1,hx1⟩:=qat hx1
  refine qct qa 2 h rfl (h.sl 0 rfl).1 (h.sl 0 rfl).2 rfl rfl rfl rfl rfl rfl rfl rfl rfl g1 hx1 rfl fun w7 p7 k6 S3 h=>X0 7 rfl ?_
  replace h:=h.pick [2,3] rfl
  exact rK ⟨_,_,_,_,_,_,hF,rfl,h⟩ rfl
 refine qu rfl ?_
 obtain rfl:=qb hF;replace hF:=hK1
 refine X1 7 1 h rfl (qi (t:=26) hF rfl ?_ ?_)<;>intro hF
 ·exact X0 3 rfl (zcB h hF (qfo (h.own 0 rfl)) rfl fun r2 w8 h hF=>X0 3 rfl (rb h hF rfl))
 exact X0 5 rfl (rb h hF rfl)
def qbl (d:qe):Nat→(List ByteArray)→Int→Option ((List ByteArray) × Int)
 | 0,_,_=>none
 | n+1,x3,i2 =>
  bif decide (i2<(d.Aj.length:Int)) then
   (idx d.Aj i2).bind fun y2 =>
   (appS x3 ([y2.Bb]:List ByteArray)).bind fun x4 =>
   qbl d n x4 (W64 (i2+1))
  else
   some (x3,i2)
def qbh (d:qe):Nat→(List ByteArray)→Int→Option ((List ByteArray) × Int)
 | 0,_,_=>none
 | n+1,x1,i1 =>
  bif decide (i1<(d.Aa.length:Int)) then
   (idx d.Aa i1).bind fun y1 =>
   (appS x1 ([y1.Bb]:List ByteArray)).bind fun x2 =>
   qbh d n x2 (W64 (i1+1))
  else
   some (x1,i1)
def qeL (n:Nat) (d:qe):Option Bool :=
 (qbh d n ([]:List ByteArray) 0).bind fun o=>match o with
 | (x1,_) =>
  (qbl d n ([]:List ByteArray) 0).bind fun o=>match o with
  | (x3,_) =>
   bif decide ((x1.length:Int)≤14) then
    bif decide ((d.Ap.length:Int)≤30) then
     bif decide ((x3.length:Int)≤8) then
      (qd0 n x1).bind fun r1 =>
      bif r1 then
       (qd0 n d.Ap).bind fun r2 =>
       bif r2 then
        (qd0 n x3).bind fun r3 =>
        some r3
       else
        some false
      else
       some false
     else
      some false
    else
     some false
   else
    some false
theorem qlD {d:qe} (ha1:GoT.R w (old w) d cs1) {r:Bool} (hF:qeL n d=some r):RetV Tryz.prog 240 [GoT.v qe cs1] w r:=by
 obtain ⟨p1,k1,p2,k2,p3,k3,rfl,s1,s2,s3⟩:=qav ha1
 refine zV 62 Tryz.func240 rfl fun h=>zSR (qw h rfl rfl fun w1 bb1 h=>X1 15 0 h rfl ?_)
 replace h:=h.nil (α:=ByteArray)
 obtain ⟨o1,hF,hK1⟩:=qc hF
 refine qm (rL (fun m e w'=>∃ (S1:Nat→Prop) (p4:Option Addr) (ln1:Nat) (k4:Nat) (x1:(List ByteArray)) (i1:Int),qbh d m x1 i1=some o1∧e=[(1,.pointer (some ⟨bb1,0,none⟩)),(3,.slice p4 ln1 k4),(4,.slice none 0 0),(10,.slice p1 d.Aa.length k1),(11,.int .i64 (d.Aa.length:Int)),(12,.int .i64 i1)]∧SH w w' [Ch.own S1 (x1:List ByteArray) [.slice p4 ln1 k4],Ch.box bb1 (qaK d p1 p2 p3 k1 k2 k3) 48]) n ⟨_,_,_,_,_,_,hF,rfl,h⟩ rfl ?_)
 rintro m1 e1 w2 ⟨S1,p4,ln1,k4,x1,i1,hF,rfl,h⟩
 obtain rfl:=(h.sl 0 rfl).2
 rcases m1 with _|m1
 ·cases hF
 refine X0 5 rfl (qh rfl hF ?_ ?_)<;>intro hF
 ·refine zKSBSR ?_
  obtain ⟨y1,hy1,hF,he1,b1,_,q1,cs2,hp1,hq1,hr1,hc2⟩:=s1.ix hF
  obtain ⟨p5,k5,rfl,s4⟩:=qN hr1
  refine zxe hp1 hq1 he1 rfl (zc 0 (hc2.below h.below) rfl (qj qa h rfl rfl rfl fun w3 bb2 h=>zs 0 h rfl fun w4 h=>X1 5 0 h rfl (qI qa [.tmp 18] _ ([y1.Bb]:List ByteArray) h rfl rfl rfl rfl rfl rfl rfl rfl rfl ⟨rfl,trivial⟩ rfl fun w5 p6 S2 h=>?_)))
  obtain ⟨x2,hx1,hF⟩:=qc hF
  obtain ⟨g1,hx1⟩:=qat hx1
  refine qct qa 2 h rfl (h.sl 0 rfl).1 (h.sl 0 rfl).2 rfl rfl rfl rfl rfl rfl rfl rfl rfl g1 hx1 rfl fun w6 p7 k6 S3 h=>X0 7 rfl ?_
  replace h:=h.pick [2,3] rfl
  exact rK ⟨_,_,_,_,_,_,hF,rfl,h⟩ rfl
 refine qu rfl ?_
 obtain rfl:=qb hF;replace hF:=hK1
 refine X1 8 1 h rfl ?_
 replace h:=h.nil (α:=ByteArray)
 obtain ⟨o2,hF,hK2⟩:=qc hF
 refine qm (rL (fun m e w'=>∃ (S4:Nat→Prop) (p8:Option Addr) (ln2:Nat) (k7:Nat) (x3:(List ByteArray)) (i2:Int),qbl d m x3 i2=some o2∧e=[(1,.pointer (some ⟨bb1,0,none⟩)),(3,.slice p4 x1.length k4),(4,.slice p8 ln2 k7),(23,.slice p3 d.Aj.length k3),(24,.int .i64 (d.Aj.length:Int)),(25,.int .i64 i2)]∧SH w w' [Ch.own S4 (x3:List ByteArray) [.slice p8 ln2 k7],Ch.own S1 (x1:List ByteArray) [.slice p4 x1.length k4],Ch.box bb1 (qaK d p1 p2 p3 k1 k2 k3) 48]) n ⟨_,_,_,_,_,_,hF,rfl,h⟩ rfl ?_)
 rintro m2 e2 w7 ⟨S4,p8,ln2,k7,x3,i2,hF,rfl,h⟩
 obtain rfl:=(h.sl 0 rfl).2
 rcases m2 with _|m2
 ·cases hF
 refine X0 5 rfl (qh rfl hF ?_ ?_)<;>intro hF
 ·refine zKSBSR ?_
  obtain ⟨y2,hy2,hF,he2,b2,_,q2,cs3,hp2,hq2,hr2,hc4⟩:=s3.ix hF
  obtain rfl:=qbj hr2
  refine zxe hp2 hq2 he2 rfl (zc 0 (hc4.below h.below) rfl (qj qa h rfl rfl rfl fun w8 bb3 h=>zs 0 h rfl fun w9 h=>X1 5 0 h rfl (qI qa [.tmp 31] _ ([y2.Bb]:List ByteArray) h rfl rfl rfl rfl rfl rfl rfl rfl rfl ⟨rfl,trivial⟩ rfl fun w10 p9 S5 h=>?_)))
  obtain ⟨x4,hx2,hF⟩:=qc hF
  obtain ⟨g2,hx2⟩:=qat hx2
  refine qct qa 2 h rfl (h.sl 0 rfl).1 (h.sl 0 rfl).2 rfl rfl rfl rfl rfl rfl rfl rfl rfl g2 hx2 rfl fun w11 p10 k8 S6 h=>X0 7 rfl ?_
  replace h:=h.pick [2,3,4] rfl
  exact rK ⟨_,_,_,_,_,_,hF,rfl,h⟩ rfl
 refine qu rfl ?_
 obtain rfl:=qb hF;replace hF:=hK2
 refine X0 6 rfl (qi (t:=38) hF rfl ?_ ?_)<;>intro hF
 ·refine X1 10 2 h rfl (qi (t:=44) hF rfl ?_ ?_)<;>intro hF
  ·refine X0 8 rfl (qi (t:=49) hF rfl ?_ ?_)<;>intro hF
   ·refine X0 3 rfl (zcB h hF (qfo (h.own 1 rfl)) rfl fun r1 w12 h hF=>zp2 rfl (qi (t:=53) hF rfl ?_ ?_))<;>intro hF
    ·refine X1 5 2 h rfl (zcB h hF (qfo ⟨_,_,rfl,(h.oldS s2)⟩) rfl fun r2 w13 h hF=>zp2 rfl (qi (t:=58) hF rfl ?_ ?_))<;>intro hF
     ·exact X0 3 rfl (zcB h hF (qfo (h.own 0 rfl)) rfl fun r3 w14 h hF=>X0 3 rfl (rb h hF rfl))
     exact X0 5 rfl (rb h hF rfl)
    exact X0 10 rfl (rb h hF rfl)
   exact X0 14 rfl (rb h hF rfl)
  exact X0 19 rfl (rb h hF rfl)
 exact X0 25 rfl (rb h hF rfl)
def qge (_:Nat) (list:(List qB)):Option Int :=
 some (list.length:Int)
theorem qln {list:(List qB)} (ha1:GoT.R w (old w) list cs1) {r:Int} (hF:qge n list=some r):RetV Tryz.prog 266 [GoT.v (List qB) cs1] w r:=by
 obtain ⟨p1,k1,rfl,s1⟩:=ha1
 exact zV 5 Tryz.func266 rfl fun h=>X0 10 rfl (ri h hF rfl)
def qhO (_:Nat) (list:(List ByteArray)):Option Int :=
 some (list.length:Int)
theorem qmx {list:(List ByteArray)} (ha1:GoT.R w (old w) list cs1) {r:Int} (hF:qhO n list=some r):RetV Tryz.prog 268 [GoT.v (List ByteArray) cs1] w r:=by
 obtain ⟨p1,k1,rfl,s1⟩:=ha1
 exact zV 5 Tryz.func268 rfl fun h=>X0 10 rfl (ri h hF rfl)
def qdz (n:Nat) (d:qe) (net:Int):Option Bool :=
 (qhO n d.Ap).bind fun r1 =>
 (qaH n net 0 (W64 (r1-1))).bind fun r2 =>
 some r2
theorem qgx {d:qe} {net:Int} (ha1:GoT.R w (old w) d cs1) {r:Bool} (hF:qdz n d net=some r):RetV Tryz.prog 242 [GoT.v qe cs1,.int .i64 net] w r:=by
 obtain ⟨p1,k1,p2,k2,p3,k3,rfl,s1,s2,s3⟩:=qav ha1
 exact zV 11 Tryz.func242 rfl fun h=>zSR (qw h rfl rfl fun w1 bb1 h=>X1 7 0 h rfl (zcI h hF (qmx ⟨_,_,rfl,(h.oldS s2)⟩) rfl fun r1 w2 h hF=>zp1 rfl (zcB h hF qax rfl fun r2 w3 h hF=>X0 2 rfl (rb h hF rfl))))
def qdi (n:Nat) (net:Int) (v0:qe):Option Bool :=
 (qdz n v0 net).bind fun r1 =>
 some (!r1)
theorem qj0 {net:Int} {v0:qe} {p1:Option Addr} (ha1:GoT.R w (old w) (some v0) [.pointer p1]) {r:Bool} (hF:qdi n net v0=some r):RetV Tryz.prog 267 [.int .i64 net,.pointer p1] w r:=by
 obtain ⟨b1,o_1,cs1,rfl,-,hr1,hc1⟩:=PtR.get ha1 rfl
 obtain ⟨p2,k1,p3,k2,p4,k3,rfl,s1,s2,s3⟩:=qav hr1
 exact zV 8 Tryz.func267 rfl fun h=>X0 6 rfl (zc 0 (hc1.below h.below) rfl (zp1 rfl (zcB h hF (qgx (qap v0 (h.oldS s1) (h.oldS s2) (h.oldS s3))) rfl fun r1 w1 h hF=>X0 3 rfl (rb h hF rfl))))
def qH (s:(List Int)) (f_0:qe):Nat→Int→Option (Flow Int Int)
 | 0,_=>none
 | n+1,i1 =>
  bif decide (i1<(s.length:Int)) then
   (idx s i1).bind fun y1 =>
   (qdi n y1 f_0).bind fun r1 =>
   bif r1 then some (.ret i1) else
   qH s f_0 n (W64 (i1+1))
  else
   some (.nxt i1)
def qaV (n:Nat) (s:(List Int)) (f_0:qe):Option Int :=
 (qH s f_0 n 0).bind fun o=>match o with
 | .ret r=>some r
 | .nxt _ =>
  some (-1)
theorem qem {s:(List Int)} {f_0:qe} (ha1:GoT.R w (old w) s cs1) {p2:Option Addr} (ha2:GoT.R w (old w) (some f_0) [.pointer p2]) {r:Int} (hF:qaV n s f_0=some r):RetV Tryz.prog 162 [GoT.v (List Int) cs1,.func (.func 267) #[] #[.pointer p2]] w r:=by
 obtain ⟨p1,k1,rfl,s1⟩:=ha1
 obtain ⟨b1,o_1,cs2,rfl,-,hr1,hc1⟩:=PtR.get ha2 rfl
 obtain ⟨p3,k2,p4,k3,p5,k4,rfl,s2,s3,s4⟩:=qav hr1
 refine zV 19 Tryz.func162 rfl fun h=>X0 11 rfl ?_
 obtain ⟨o1,hF,hK1⟩:=qc hF
 refine qm (rL (fun m e w'=>∃ (i1:Int),qH s f_0 m i1=some o1∧e=[(0,.slice p1 s.length k1),(1,.func (.func 267) #[] #[.pointer (some ⟨b1,o_1,none⟩)]),(7,.int .i64 (s.length:Int)),(8,.int .i64 i1)]∧SH w w' []) n ⟨_,hF,rfl,h⟩ rfl ?_)
 rintro m1 e1 w1 ⟨i1,hF,rfl,h⟩
 rcases m1 with _|m1
 ·cases hF
 refine X0 5 rfl (qh rfl hF ?_ ?_)<;>intro hF
 ·refine X0 13 rfl ?_
  obtain ⟨y1,hy1,hF,he1,b2,_,q1,cs3,hp1,hq1,rfl,hc3⟩:=s1.ix hF
  refine zxe hp1 hq1 he1 rfl (zc 0 (hc3.below h.below) rfl (zcB h hF (qj0 (h.old ha2)) rfl fun r1 w2 h hF=>qcw (qh rfl hF ?_ ?_)))<;>intro hF
  ·refine X0 5 rfl ?_
   obtain rfl:=qb hF;replace hF:=hK1
   exact ri h hF rfl
  exact X0 6 rfl (rK ⟨_,hF,rfl,h⟩ rfl)
 refine qu rfl ?_
 obtain rfl:=qb hF;replace hF:=hK1
 exact X0 4 rfl (ri h hF rfl)
def qaN (n:Nat) (s:(List Int)) (f_0:qe):Option Bool :=
 (qaV n s f_0).bind fun r1 =>
 some (decide (r1 ≥ 0))
theorem qdN {s:(List Int)} {f_0:qe} (ha1:GoT.R w (old w) s cs1) {p2:Option Addr} (ha2:GoT.R w (old w) (some f_0) [.pointer p2]) {r:Bool} (hF:qaN n s f_0=some r):RetV Tryz.prog 110 [GoT.v (List Int) cs1,.func (.func 267) #[] #[.pointer p2]] w r:=by
 obtain ⟨p1,k1,rfl,s1⟩:=ha1
 obtain ⟨b1,o_1,cs2,rfl,-,hr1,hc1⟩:=PtR.get ha2 rfl
 obtain ⟨p3,k2,p4,k3,p5,k4,rfl,s2,s3,s4⟩:=qav hr1
 exact zV 9 Tryz.func110 rfl fun h=>X0 8 rfl (zcI h hF (qem ⟨_,_,rfl,(h.oldS s1)⟩ (h.old ha2)) rfl fun r1 w1 h hF=>X0 3 rfl (rb h hF rfl))
def qdY (n:Nat) (d:qe) (l:qq) (x:qp):Option Bool :=
 (qge n l.Au).bind fun r1 =>
 (qaH n x.Bs 0 (W64 (r1-1))).bind fun r2 =>
 bif r2 then
  (idx l.Au x.Bs).bind fun y1 =>
  bif ((x.Ap.length:Int)==(y1.Be.length:Int)) then
   (qaN n x.Ap d).bind fun r3 =>
   some (!r3)
  else
   some false
 else
  some false
theorem qkQ {d:qe} {l:qq} {x:qp} (ha1:GoT.R w (old w) d cs1) (ha2:GoT.R w (old w) l cs2) (ha3:GoT.R w (old w) x cs3) {r:Bool} (hF:qdY n d l x=some r):RetV Tryz.prog 241 [GoT.v qe cs1,GoT.v qq cs2,GoT.v qp cs3] w r:=by
 obtain ⟨p1,k1,p2,k2,p3,k3,rfl,s1,s2,s3⟩:=qav ha1
 obtain ⟨p4,k4,rfl,s4⟩:=qbz ha2
 obtain ⟨p5,k5,rfl,s5⟩:=qN ha3
 refine zV 35 Tryz.func241 rfl fun h=>zSR (qw h rfl rfl fun w1 bb1 h=>qw h rfl rfl fun w2 bb2 h=>qw h rfl rfl fun w3 bb3 h=>X0 3 rfl (rD (Y1 2 0 h rfl ?_)))
 refine Y1 2 1 h rfl ?_
 obtain ⟨r1,hr1,hF⟩:=qc hF
 refine qaQ r1 (vsI _) (cB 266 rfl) (fun _ hb=>qln ⟨_,_,rfl,((h.ext hb).oldS s4)⟩ hr1) rfl rfl rfl rfl (zd1 rfl ?_)
 obtain ⟨r2,hr2,hF⟩:=qc hF
 refine qaQ r2 (vsB _) (cB 159 rfl) (fun _ hb=>qax  hr2) rfl rfl rfl rfl (zd1 rfl (qaL (t:=14) hF rfl ?_ ?_))<;>intro hF
 ·refine Y1 4 0 h rfl ?_
  refine Y1 6 1 h rfl ?_
  refine Y1 4 0 h rfl ?_
  refine Y0 1 rfl ?_
  obtain ⟨y1,hy1,hF,he1,b1,_,q1,cs4,hp1,hq1,hr3,hc1⟩:=s4.ix hF
  obtain ⟨p6,k6,p7,k7,p8,k8,rfl,s6,s7,s8⟩:=qad hr3
  refine zdxe hp1 hq1 he1 rfl (Y0 3 rfl (zdc 2 (hc1.below h.below) rfl (Y0 6 rfl (qaL (t:=28) hF rfl ?_ ?_))))<;>intro hF
  ·refine Y1 4 0 h rfl ?_
   refine Y0 3 rfl ?_
   obtain ⟨r3,hr4,hF⟩:=qc hF
   exact qaQ r3 (vsB _) (cB 110 rfl) (fun _ hb=>qdN ⟨_,_,rfl,((h.ext hb).oldS s5)⟩ (qgF (x:=d) 2 (h.ext hb) rfl ((h.ext hb).old ha1)) hr4) rfl rfl rfl rfl (Y0 4 rfl (dN h fun w4 h=>rb h hF rfl))
  exact Y0 7 rfl (dN h fun w5 h=>rb h hF rfl)
 exact Y0 21 rfl (dN h fun w6 h=>rb h hF rfl)
def qjL (_:Nat) (a_n:Int):Option Bool :=
 some (a_n != 1)
theorem qnX {a_n:Int}  {r:Bool} (hF:qjL n a_n=some r):RetV Tryz.prog 244 [.int .i64 a_n] w r:=by
 exact zV 5 Tryz.func244 rfl fun h=>X0 10 rfl (rb h hF rfl)
def qak (s:(List Int)):Nat→Int→Option (Flow Int Int)
 | 0,_=>none
 | n+1,i1 =>
  bif decide (i1<(s.length:Int)) then
   (idx s i1).bind fun y1 =>
   (qjL n y1).bind fun r1 =>
   bif r1 then some (.ret i1) else
   qak s n (W64 (i1+1))
  else
   some (.nxt i1)
def qb3 (n:Nat) (s:(List Int)):Option Int :=
 (qak s n 0).bind fun o=>match o with
 | .ret r=>some r
 | .nxt _ =>
  some (-1)
theorem qgo {s:(List Int)} (ha1:GoT.R w (old w) s cs1) {r:Int} (hF:qb3 n s=some r):RetV Tryz.prog 269 [GoT.v (List Int) cs1,.func (.func 244) #[] #[]] w r:=by
 obtain ⟨p1,k1,rfl,s1⟩:=ha1
 refine zV 19 Tryz.func269 rfl fun h=>X0 11 rfl ?_
 obtain ⟨o1,hF,hK1⟩:=qc hF
 refine qm (rL (fun m e w'=>∃ (i1:Int),qak s m i1=some o1∧e=[(0,.slice p1 s.length k1),(1,.func (.func 244) #[] #[]),(7,.int .i64 (s.length:Int)),(8,.int .i64 i1)]∧SH w w' []) n ⟨_,hF,rfl,h⟩ rfl ?_)
 rintro m1 e1 w1 ⟨i1,hF,rfl,h⟩
 rcases m1 with _|m1
 ·cases hF
 refine X0 5 rfl (qh rfl hF ?_ ?_)<;>intro hF
 ·refine X0 13 rfl ?_
  obtain ⟨y1,hy1,hF,he1,b1,_,q1,cs2,hp1,hq1,rfl,hc2⟩:=s1.ix hF
  refine zxe hp1 hq1 he1 rfl (zc 0 (hc2.below h.below) rfl (zcB h hF qnX rfl fun r1 w2 h hF=>qcw (qh rfl hF ?_ ?_)))<;>intro hF
  ·refine X0 5 rfl ?_
   obtain rfl:=qb hF;replace hF:=hK1
   exact ri h hF rfl
  exact X0 6 rfl (rK ⟨_,hF,rfl,h⟩ rfl)
 refine qu rfl ?_
 obtain rfl:=qb hF;replace hF:=hK1
 exact X0 4 rfl (ri h hF rfl)
def qbJ (n:Nat) (s:(List Int)):Option Bool :=
 (qb3 n s).bind fun r1 =>
 some (decide (r1 ≥ 0))
theorem qfO {s:(List Int)} (ha1:GoT.R w (old w) s cs1) {r:Bool} (hF:qbJ n s=some r):RetV Tryz.prog 243 [GoT.v (List Int) cs1,.func (.func 244) #[] #[]] w r:=by
 obtain ⟨p1,k1,rfl,s1⟩:=ha1
 exact zV 9 Tryz.func243 rfl fun h=>X0 8 rfl (zcI h hF (qgo ⟨_,_,rfl,(h.oldS s1)⟩) rfl fun r1 w1 h hF=>X0 3 rfl (rb h hF rfl))
def qco (a_1:qe):Nat→(List Int)→Int→Option (Flow Bool ((List Int) × Int))
 | 0,_,_=>none
 | n+1,x3,i2 =>
  bif decide (i2<(a_1.Aj.length:Int)) then
   (idx a_1.Aj i2).bind fun y5 =>
   (
    bif (y5.Bv != 1) then
     bif (y5.Bv != 2) then some true else
     (qdz n a_1 y5.Bx).bind fun r2 =>
     some (!r2)
    else
     (qdz n a_1 y5.Bx).bind fun r3 =>
     some (!r3)).bind fun b7 =>
   bif b7 then some (.ret false) else
   bif (y5.Bv==1) then
    (idx x3 y5.Bx).bind fun y6 =>
    (idx x3 y5.Bx).bind fun _ =>
    qco a_1 n (setS x3 y5.Bx (W64 (y6+1))) (W64 (i2+1))
   else
    qco a_1 n x3 (W64 (i2+1))
  else
   some (.nxt (x3,i2))
def qc9 (a_0:qq) (a_1:qe):Nat→(List Int)→Int→Option (Flow Bool ((List Int) × Int))
 | 0,_,_=>none
 | n+1,x2,i1 =>
  bif decide (i1<(a_1.Aa.length:Int)) then
   (idx a_1.Aa i1).bind fun y1 =>
   (qdY n a_1 a_0 y1).bind fun r1 =>
   bif (!r1) then some (.ret false) else
   (idx y1.Ap (W64 ((y1.Ap.length:Int)-1))).bind fun y2 =>
   (idx x2 y2).bind fun y3 =>
   (idx x2 y2).bind fun _ =>
   qc9 a_0 a_1 n (setS x2 y2 (W64 (y3+1))) (W64 (i1+1))
  else
   some (.nxt (x2,i1))
def qi3 (n:Nat) (a_0:qq) (a_1:qe):Option Bool :=
 (
  (qie n a_0).bind fun r5 =>
  bif (!r5) then some true else
  (qeL n a_1).bind fun r6 =>
  some (!r6)).bind fun b1 =>
 bif b1 then some false else
 (mkS (a_1.Ap.length:Int) (0:Int)).bind fun x1 =>
 (qc9 a_0 a_1 n x1 0).bind fun o=>match o with
 | .ret r=>some r
 | .nxt (x2,_) =>
  (qco a_1 n x2 0).bind fun o=>match o with
  | .ret r=>some r
  | .nxt (x3,_) =>
   (qbJ n x3).bind fun r4 =>
   some (!r4)
theorem qoP {a_0:qq} {a_1:qe} (ha1:GoT.R w (old w) a_0 cs1) (ha2:GoT.R w (old w) a_1 cs2) {r:Bool} (hF:qi3 n a_0 a_1=some r):RetV Tryz.prog 211 [GoT.v qq cs1,GoT.v qe cs2] w r:=by
 obtain ⟨p1,k1,rfl,s1⟩:=qbz ha1
 obtain ⟨p2,k2,p3,k3,p4,k4,rfl,s2,s3,s4⟩:=qav ha2
 refine zV 84 Tryz.func211 rfl fun h=>zSR (qw h rfl rfl fun w1 bb1 h=>qw h rfl rfl fun w2 bb2 h=>X0 4 rfl ?_)
 obtain ⟨KF2,hKF2,o4,hF,hK4⟩:=bindE hF
 refine qbp (fun e w'=>∃ (b1:Bool),KF2 b1=some r∧e=[(2,.pointer (some ⟨bb1,0,none⟩)),(3,.pointer (some ⟨bb2,0,none⟩)),(17,.bool b1)]∧SH w w' [Ch.box bb2 (qaK a_1 p2 p3 p4 k2 k3 k4) 48,Ch.box bb1 [.slice p1 a_0.Au.length k1] 44]) ?_ ?_
 ·refine X1 2 1 h rfl (zcB h hF (qoy (h.old ha1)) rfl fun r5 w17 h hF=>zp2 rfl (qi (t:=13) hF rfl ?_ ?_))<;>intro hF
  ·refine X0 5 rfl ?_
   obtain rfl:=qb hF
   exact rG ⟨_,hK4,rfl,h⟩ rfl
  refine X1 3 0 h rfl (zcB h hF (qlD (h.old ha2)) rfl fun r6 w18 h hF=>X0 4 rfl ?_)
  obtain rfl:=qb hF
  exact rG ⟨_,hK4,rfl,h⟩ rfl
 rintro e4 w19 ⟨b1,hF,rfl,h⟩
 subst hKF2
 refine qh rfl hF ?_ ?_<;>intro hF
 ·exact X0 4 rfl (rb h hF rfl)
 refine X1 6 0 h rfl ?_
 obtain ⟨x1,hx1,hF⟩:=qc hF
 obtain ⟨g1,g2,hx1⟩:=qO hx1
 refine qaj qa Int h rfl rfl rfl rfl rfl rfl rfl rfl rfl g1 g2 hx1 rfl fun w3 S1 p5 h=>X1 10 1 h rfl ?_
 obtain ⟨o1,hF,hK1⟩:=qc hF
 refine qm (rL (fun m e w'=>∃ (x2:(List Int)) (i1:Int),qc9 a_0 a_1 m x2 i1=some o1∧e=[(2,.pointer (some ⟨bb1,0,none⟩)),(3,.pointer (some ⟨bb2,0,none⟩)),(5,.slice p5 x1.length x1.length),(23,.slice p2 a_1.Aa.length k2),(24,.int .i64 (a_1.Aa.length:Int)),(25,.int .i64 i1)]∧SH w w' [Ch.own S1 (x2:List Int) [.slice p5 x1.length x1.length],Ch.box bb2 (qaK a_1 p2 p3 p4 k2 k3 k4) 48,Ch.box bb1 [.slice p1 a_0.Au.length k1] 44]) n ⟨_,_,hF,rfl,h⟩ rfl ?_)
 rintro m1 e1 w4 ⟨x2,i1,hF,rfl,h⟩
 rcases m1 with _|m1
 ·cases hF
 refine X0 5 rfl (qh rfl hF ?_ ?_)<;>intro hF
 ·refine zKSBSR ?_
  obtain ⟨y1,hy1,hF,he1,b2,_,q1,cs3,hp1,hq1,hr1,hc3⟩:=s2.ix hF
  obtain ⟨p6,k5,rfl,s5⟩:=qN hr1
  refine zxe hp1 hq1 he1 rfl (zc 0 (hc3.below h.below) rfl (qj qa h rfl rfl rfl fun w5 bb3 h=>zs 0 h rfl fun w6 h=>X3 7 2 3 0 h rfl (zcB h hF (qkQ (h.old ha2) (h.old ha1) (qf7 y1 (h.oldS s5))) rfl fun r1 w7 h hF=>X0 2 rfl (qh rfl hF ?_ ?_))))<;>intro hF
  ·refine X0 4 rfl ?_
   obtain rfl:=qb hF;replace hF:=hK1
   exact rb h hF rfl
  refine X2 9 0 0 h rfl ?_
  obtain ⟨y2,hy2,hF,he2,b3,_,q2,cs4,hp2,hq2,rfl,hc5⟩:=s5.ix hF
  refine zxe hp2 hq2 he2 rfl (zc 0 (hc5.below h.below) rfl ?_)
  obtain ⟨y3,hy3,hF,he3,b4,_,q3,cs5,hp3,hq3,rfl,hc6⟩:=(h.sl 1 rfl).1.ix hF
  refine zx hp3 hq3 ⟨he3.1,qR he3.2.1 (h.sl 1 rfl).2⟩ rfl (zc 0 hc6 rfl (zp1 rfl ?_))
  obtain ⟨y4,hy4,hF,he4,b5,_,q4,cs6,hp4,hq4,rfl,hc7⟩:=(h.sl 1 rfl).1.ix hF
  refine zx hp4 hq4 ⟨he4.1,qR he4.2.1 (h.sl 1 rfl).2⟩ rfl (qbx qa 1 0 (W64 (y3+1)) h rfl hy4 hp4 hq4 rfl hc7 rfl rfl rfl rfl rfl rfl rfl fun w8 h=>X0 6 rfl ?_)
  replace h:=h.pick [1,2,3] rfl
  exact rK ⟨_,_,hF,rfl,h⟩ rfl
 refine qu rfl ?_
 obtain rfl:=qb hF;replace hF:=hK1
 refine X1 8 1 h rfl ?_
 obtain ⟨o2,hF,hK2⟩:=qc hF
 refine qm ?_
 replace h:=h.pick [0,1] rfl
 refine rL (fun m e w'=>∃ (x3:(List Int)) (i2:Int),qco a_1 m x3 i2=some o2∧e=[(3,.pointer (some ⟨bb2,0,none⟩)),(5,.slice p5 x1.length x1.length),(49,.slice p4 a_1.Aj.length k4),(50,.int .i64 (a_1.Aj.length:Int)),(51,.int .i64 i2)]∧SH w w' [Ch.own S1 (x3:List Int) [.slice p5 x1.length x1.length],Ch.box bb2 (qaK a_1 p2 p3 p4 k2 k3 k4) 48]) n ⟨_,_,hF,rfl,h⟩ rfl ?_
 rintro m2 e2 w9 ⟨x3,i2,hF,rfl,h⟩
 rcases m2 with _|m2
 ·cases hF
 refine X0 5 rfl (qh rfl hF ?_ ?_)<;>intro hF
 ·refine zKSBSR ?_
  obtain ⟨y5,hy5,hF,he5,b6,_,q5,cs7,hp5,hq5,hr6,hc9⟩:=s4.ix hF
  obtain rfl:=qbj hr6
  refine zxe hp5 hq5 he5 rfl (zc 0 (hc9.below h.below) rfl (qj qa h rfl rfl rfl fun w10 bb4 h=>zs 0 h rfl fun w11 h=>zNSS ?_))
  obtain ⟨KF1,hKF1,o3,hF,hK3⟩:=bindE hF
  refine qbp (fun e w'=>∃ (b7:Bool),KF1 b7=some o2∧e=[(3,.pointer (some ⟨bb2,0,none⟩)),(5,.slice p5 x1.length x1.length),(9,.pointer (some ⟨bb4,0,none⟩)),(49,.slice p4 a_1.Aj.length k4),(50,.int .i64 (a_1.Aj.length:Int)),(51,.int .i64 i2),(69,.bool b7)]∧SH w w' [Ch.box bb4 (qp7 y5) 245,Ch.own S1 (x3:List Int) [.slice p5 x1.length x1.length],Ch.box bb2 (qaK a_1 p2 p3 p4 k2 k3 k4) 48]) ?_ ?_
  ·refine X1 5 0 h rfl (qi (t:=58) hF rfl ?_ ?_)<;>intro hF
   ·refine X1 8 0 h rfl (qi (t:=63) hF rfl ?_ ?_)<;>intro hF
    ·refine X0 7 rfl ?_
     obtain rfl:=qb hF
     exact rG ⟨_,hK3,rfl,h⟩ rfl
    refine X2 7 2 0 h rfl (zcB h hF (qgx (h.old ha2)) rfl fun r2 w13 h hF=>X0 4 rfl ?_)
    obtain rfl:=qb hF
    exact rG ⟨_,hK3,rfl,h⟩ rfl
   refine X2 12 2 0 h rfl (zcB h hF (qgx (h.old ha2)) rfl fun r3 w14 h hF=>X0 4 rfl ?_)
   obtain rfl:=qb hF
   exact rG ⟨_,hK3,rfl,h⟩ rfl
  rintro e3 w15 ⟨b7,hF,rfl,h⟩
  subst hKF1
  refine qh rfl hF ?_ ?_<;>intro hF
  ·refine X0 4 rfl ?_
   obtain rfl:=qb hF;replace hF:=hK2
   exact rb h hF rfl
  refine X1 7 0 h rfl (qh rfl hF ?_ ?_)<;>intro hF
  ·refine X1 4 0 h rfl ?_
   obtain ⟨y6,hy6,hF,he6,b8,_,q6,cs8,hp6,hq6,rfl,hc12⟩:=(h.sl 1 rfl).1.ix hF
   refine zx hp6 hq6 ⟨he6.1,qR he6.2.1 (h.sl 1 rfl).2⟩ rfl (zc 0 hc12 rfl (zp1 rfl ?_))
   obtain ⟨y7,hy7,hF,he7,b9,_,q7,cs9,hp7,hq7,rfl,hc13⟩:=(h.sl 1 rfl).1.ix hF
   refine zx hp7 hq7 ⟨he7.1,qR he7.2.1 (h.sl 1 rfl).2⟩ rfl (qbx qa 1 0 (W64 (y6+1)) h rfl hy7 hp7 hq7 rfl hc13 rfl rfl rfl rfl rfl rfl rfl fun w12 h=>X0 6 rfl ?_)
   replace h:=h.pick [1,2] rfl
   exact rK ⟨_,_,hF,rfl,h⟩ rfl
  refine X0 6 rfl ?_
  replace h:=h.pick [1,2] rfl
  exact rK ⟨_,_,hF,rfl,h⟩ rfl
 refine qu rfl ?_
 obtain rfl:=qb hF;replace hF:=hK2
 exact X0 3 rfl (zcB h hF (qfO (h.own 0 rfl)) rfl fun r4 w16 h hF=>X0 3 rfl (rb h hF rfl))
def qbF (i1:Int) (y1:qp):Nat→(List Tplace)→Int→Option ((List Tplace) × Int)
 | 0,_,_=>none
 | n+1,x2,i2 =>
  bif decide (i2<(y1.Ap.length:Int)) then
   (idx y1.Ap i2).bind fun y2 =>
   (appS x2 ([(⟨i1,i2,y2,(i2==(W64 ((y1.Ap.length:Int)-1)))⟩:Tplace)]:List Tplace)).bind fun x3 =>
   qbF i1 y1 n x3 (W64 (i2+1))
  else
   some (x2,i2)
def qbH (d:qe):Nat→(List Tplace)→Int→Option ((List Tplace) × Int)
 | 0,_,_=>none
 | n+1,x4,i3 =>
  bif decide (i3<(d.Aj.length:Int)) then
   (idx d.Aj i3).bind fun y3 =>
   (appS x4 ([(⟨(-1),i3,y3.Bx,(y3.Bv==1)⟩:Tplace)]:List Tplace)).bind fun x5 =>
   qbH d n x5 (W64 (i3+1))
  else
   some (x4,i3)
def qbG (d:qe):Nat→(List Tplace)→Int→Option ((List Tplace) × Int)
 | 0,_,_=>none
 | n+1,x1,i1 =>
  bif decide (i1<(d.Aa.length:Int)) then
   (idx d.Aa i1).bind fun y1 =>
   (qbF i1 y1 n x1 0).bind fun o=>match o with
   | (x2,_) =>
    qbG d n x2 (W64 (i1+1))
  else
   some (x1,i1)
def qch (n:Nat) (d:qe):Option (List Tplace) :=
 (qbG d n ([]:List Tplace) 0).bind fun o=>match o with
 | (x1,_) =>
  (qbH d n x1 0).bind fun o=>match o with
  | (x4,_) =>
   some x4
theorem qeq {d:qe} (ha1:GoT.R w (old w) d cs1) {r:(List Tplace)} (hF:qch n d=some r):RetV Tryz.prog 212 [GoT.v qe cs1] w r:=by
 obtain ⟨p1,k1,p2,k2,p3,k3,rfl,s1,s2,s3⟩:=qav ha1
 refine zV 61 Tryz.func212 rfl fun h=>zSR (qw h rfl rfl fun w1 bb1 h=>X1 14 0 h rfl ?_)
 replace h:=h.nil (α:=Tplace)
 obtain ⟨o1,hF,hK1⟩:=qc hF
 refine qm (rL (fun m e w'=>∃ (S1:Nat→Prop) (p4:Option Addr) (ln1:Nat) (k4:Nat) (x1:(List Tplace)) (i1:Int),qbG d m x1 i1=some o1∧e=[(1,.pointer (some ⟨bb1,0,none⟩)),(3,.slice p4 ln1 k4),(11,.slice p1 d.Aa.length k1),(12,.int .i64 (d.Aa.length:Int)),(13,.int .i64 i1)]∧SH w w' [Ch.own S1 (x1:List Tplace) [.slice p4 ln1 k4],Ch.box bb1 (qaK d p1 p2 p3 k1 k2 k3) 48]) n ⟨_,_,_,_,_,_,hF,rfl,h⟩ rfl ?_)
 rintro m1 e1 w2 ⟨S1,p4,ln1,k4,x1,i1,hF,rfl,h⟩
 obtain rfl:=(h.sl 0 rfl).2
 rcases m1 with _|m1
 ·cases hF
 refine X0 5 rfl (qh rfl hF ?_ ?_)<;>intro hF
 ·refine X0 6 rfl ?_
  obtain ⟨y1,hy1,hF,he1,b1,_,q1,cs2,hp1,hq1,hr1,hc2⟩:=s1.ix hF
  obtain ⟨p5,k5,rfl,s4⟩:=qN hr1
  refine zxe hp1 hq1 he1 rfl (zc 0 (hc2.below h.below) rfl (qj qa h rfl rfl rfl fun w3 bb2 h=>zp1 rfl (zs 0 h rfl fun w4 h=>X1 8 0 h rfl ?_)))
  obtain ⟨o2,hF,hK2⟩:=qc hF
  refine qm (rL (fun m e w'=>∃ (S2:Nat→Prop) (p6:Option Addr) (ln2:Nat) (k6:Nat) (x2:(List Tplace)) (i2:Int),qbF i1 y1 m x2 i2=some o2∧e=[(1,.pointer (some ⟨bb1,0,none⟩)),(3,.slice p6 ln2 k6),(4,.int .i64 i1),(5,.pointer (some ⟨bb2,0,none⟩)),(11,.slice p1 d.Aa.length k1),(12,.int .i64 (d.Aa.length:Int)),(13,.int .i64 i1),(19,.slice p5 y1.Ap.length k5),(20,.int .i64 (y1.Ap.length:Int)),(21,.int .i64 i2)]∧SH w w' [Ch.box bb2 (qjq y1 p5 k5) 170,Ch.own S2 (x2:List Tplace) [.slice p6 ln2 k6],Ch.box bb1 (qaK d p1 p2 p3 k1 k2 k3) 48]) m1 ⟨_,_,_,_,_,_,hF,rfl,h⟩ rfl ?_)
  rintro m2 e2 w5 ⟨S2,p6,ln2,k6,x2,i2,hF,rfl,h⟩
  obtain rfl:=(h.sl 1 rfl).2
  rcases m2 with _|m2
  ·cases hF
  refine X0 5 rfl (qh rfl hF ?_ ?_)<;>intro hF
  ·refine X0 6 rfl ?_
   obtain ⟨y2,hy2,hF,he2,b2,_,q2,cs3,hp2,hq2,rfl,hc4⟩:=s4.ix hF
   refine zxe hp2 hq2 he2 rfl (zc 0 (hc4.below h.below) rfl (X1 14 0 h rfl (r_v (qY qa [0,1,2,3] [.tmp 27,.tmp 28,.tmp 29,.tmp 35] rfl rfl rfl rfl rfl rfl rfl rfl) rfl (qI qa [.tmp 36] _ ([(⟨i1,i2,y2,(i2==(W64 ((y1.Ap.length:Int)-1)))⟩:Tplace)]:List Tplace) h rfl rfl rfl rfl rfl rfl rfl rfl rfl ⟨(qmd (⟨i1,i2,y2,(i2==(W64 ((y1.Ap.length:Int)-1)))⟩:Tplace)),trivial⟩ rfl fun w6 p7 S3 h=>?_))))
   obtain ⟨x3,hx1,hF⟩:=qc hF
   obtain ⟨g1,hx1⟩:=qat hx1
   refine qct qa 2 h rfl (h.sl 0 rfl).1 (h.sl 0 rfl).2 rfl rfl rfl rfl rfl rfl rfl rfl rfl g1 hx1 rfl fun w7 p8 k7 S4 h=>X0 7 rfl ?_
   replace h:=h.pick [1,2,3] rfl
   exact rK ⟨_,_,_,_,_,_,hF,rfl,h⟩ rfl
  refine qu rfl ?_
  obtain rfl:=qb hF;replace hF:=hK2
  refine X0 5 rfl ?_
  replace h:=h.pick [1,2] rfl
  exact rK ⟨_,_,_,_,_,_,hF,rfl,h⟩ rfl
 refine qu rfl ?_
 obtain rfl:=qb hF;replace hF:=hK1
 refine X1 8 1 h rfl ?_
 obtain ⟨o3,hF,hK3⟩:=qc hF
 refine qm ?_
 replace h:=h.pick [0] rfl
 refine rL (fun m e w'=>∃ (S5:Nat→Prop) (p9:Option Addr) (ln3:Nat) (k8:Nat) (x4:(List Tplace)) (i3:Int),qbH d m x4 i3=some o3∧e=[(3,.slice p9 ln3 k8),(42,.slice p3 d.Aj.length k3),(43,.int .i64 (d.Aj.length:Int)),(44,.int .i64 i3)]∧SH w w' [Ch.own S5 (x4:List Tplace) [.slice p9 ln3 k8]]) n ⟨_,_,_,_,_,_,hF,rfl,h⟩ rfl ?_
 rintro m3 e3 w8 ⟨S5,p9,ln3,k8,x4,i3,hF,rfl,h⟩
 obtain rfl:=(h.sl 0 rfl).2
 rcases m3 with _|m3
 ·cases hF
 refine X0 5 rfl (qh rfl hF ?_ ?_)<;>intro hF
 ·refine X0 6 rfl ?_
  obtain ⟨y3,hy3,hF,he3,b3,_,q3,cs4,hp3,hq3,hr3,hc6⟩:=s3.ix hF
  obtain rfl:=qbj hr3
  refine zxe hp3 hq3 he3 rfl (zc 0 (hc6.below h.below) rfl (qj qa h rfl rfl rfl fun w9 bb3 h=>zp1 rfl (zs 0 h rfl fun w10 h=>X2 9 0 0 h rfl (r_v (qY qa [0,1,2,3] [.const (.int .i64 (-1)),.tmp 50,.tmp 52,.tmp 55] rfl rfl rfl rfl rfl rfl rfl rfl) rfl (qI qa [.tmp 56] _ ([(⟨(-1),i3,y3.Bx,(y3.Bv==1)⟩:Tplace)]:List Tplace) h rfl rfl rfl rfl rfl rfl rfl rfl rfl ⟨(qmd (⟨(-1),i3,y3.Bx,(y3.Bv==1)⟩:Tplace)),trivial⟩ rfl fun w11 p10 S6 h=>?_)))))
  obtain ⟨x5,hx2,hF⟩:=qc hF
  obtain ⟨g2,hx2⟩:=qat hx2
  refine qct qa 2 h rfl (h.sl 0 rfl).1 (h.sl 0 rfl).2 rfl rfl rfl rfl rfl rfl rfl rfl rfl g2 hx2 rfl fun w12 p11 k9 S7 h=>X0 7 rfl ?_
  replace h:=h.pick [2] rfl
  exact rK ⟨_,_,_,_,_,_,hF,rfl,h⟩ rfl
 refine qu rfl ?_
 obtain rfl:=qb hF;replace hF:=hK3
 refine X0 5 rfl ?_
 obtain rfl:=qb hF
 exact rO 0 h rfl ⟨rfl,trivial⟩
def qba (a_w:qQ):Nat→Int→Option (Flow Bool Int)
 | 0,_=>none
 | n+1,i1 =>
  bif decide (i1<(a_w.Am.length:Int)) then
   (idx a_w.Am i1).bind fun y1 =>
   bif (i1==0) then
    bif (y1 != (-1)) then some (.ret false) else
    (idx a_w.Bw 0).bind fun y2 =>
    bif (y2 != 0) then some (.ret false) else
    bif decide (i1 > 0) then
     (qaH n y1 0 (W64 (i1-1))).bind fun r1 =>
     bif (!r1) then some (.ret false) else
     qba a_w n (W64 (i1+1))
    else
     qba a_w n (W64 (i1+1))
   else
    bif decide (i1 > 0) then
     (qaH n y1 0 (W64 (i1-1))).bind fun r2 =>
     bif (!r2) then some (.ret false) else
     qba a_w n (W64 (i1+1))
    else
     qba a_w n (W64 (i1+1))
  else
   some (.nxt i1)
def qgP (n:Nat) (a_w:qQ):Option Bool :=
 (qba a_w n 0).bind fun o=>match o with
 | .ret r=>some r
 | .nxt _ =>
  some true
theorem qnw {a_w:qQ} (ha1:GoT.R w (old w) a_w cs1) {r:Bool} (hF:qgP n a_w=some r):RetV Tryz.prog 245 [GoT.v qQ cs1] w r:=by
 obtain ⟨p1,k1,p2,k2,p3,k3,p4,k4,rfl,s1,s2,s3,s4⟩:=qaM ha1
 refine zV 38 Tryz.func245 rfl fun h=>zSR (qw h rfl rfl fun w1 bb1 h=>X1 10 0 h rfl ?_)
 obtain ⟨o1,hF,hK1⟩:=qc hF
 refine qm (rL (fun m e w'=>∃ (i1:Int),qba a_w m i1=some o1∧e=[(1,.pointer (some ⟨bb1,0,none⟩)),(6,.slice p1 a_w.Am.length k1),(7,.int .i64 (a_w.Am.length:Int)),(8,.int .i64 i1)]∧SH w w' [Ch.box bb1 (qgf a_w p1 p2 p3 p4 k1 k2 k3 k4) 186]) n ⟨_,hF,rfl,h⟩ rfl ?_)
 rintro m1 e1 w2 ⟨i1,hF,rfl,h⟩
 rcases m1 with _|m1
 ·cases hF
 refine X0 5 rfl (qh rfl hF ?_ ?_)<;>intro hF
 ·refine X0 6 rfl ?_
  obtain ⟨y1,hy1,hF,he1,b1,_,q1,cs2,hp1,hq1,rfl,hc2⟩:=s1.ix hF
  refine zxe hp1 hq1 he1 rfl (zc 0 (hc2.below h.below) rfl (X0 8 rfl (qi (t:=15) hF rfl ?_ ?_)))<;>intro hF
  ·refine X0 6 rfl (qi (t:=18) hF rfl ?_ ?_)<;>intro hF
   ·refine X0 20 rfl (qbX rfl rfl (X0 4 rfl ?_))
    obtain rfl:=qb hF;replace hF:=hK1
    exact rb h hF rfl
   refine X1 5 0 h rfl ?_
   obtain ⟨y2,hy2,hF,he2,b2,_,q2,cs3,hp2,hq2,rfl,hc3⟩:=s2.ix hF
   refine zxe hp2 hq2 he2 rfl (X0 1 rfl (zc 0 (hc3.below h.below) rfl (X0 6 rfl (qi (t:=26) hF rfl ?_ ?_))))<;>intro hF
   ·refine X0 11 rfl (qbX rfl rfl (X0 4 rfl ?_))
    obtain rfl:=qb hF;replace hF:=hK1
    exact rb h hF rfl
   refine X0 6 rfl (qi (t:=29) hF rfl ?_ ?_)<;>intro hF
   ·refine X0 7 rfl (zcB h hF qax rfl fun r1 w3 h hF=>X0 6 rfl (qh rfl hF ?_ ?_))<;>intro hF
    ·refine X0 4 rfl ?_
     obtain rfl:=qb hF;replace hF:=hK1
     exact rb h hF rfl
    exact X0 6 rfl (rK ⟨_,hF,rfl,h⟩ rfl)
   exact X0 9 rfl (qbZ rfl rfl (X0 6 rfl (rK ⟨_,hF,rfl,h⟩ rfl)))
  refine X0 17 rfl (qi (t:=29) hF rfl ?_ ?_)<;>intro hF
  ·refine X0 7 rfl (zcB h hF qax rfl fun r2 w4 h hF=>X0 6 rfl (qh rfl hF ?_ ?_))<;>intro hF
   ·refine X0 4 rfl ?_
    obtain rfl:=qb hF;replace hF:=hK1
    exact rb h hF rfl
   exact X0 6 rfl (rK ⟨_,hF,rfl,h⟩ rfl)
  exact X0 9 rfl (qbZ rfl rfl (X0 6 rfl (rK ⟨_,hF,rfl,h⟩ rfl)))
 refine qu rfl ?_
 obtain rfl:=qb hF;replace hF:=hK1
 exact X0 4 rfl (rb h hF rfl)
def qlg (n:Nat) (a_w:qQ) (sinks:Int):Option Bool :=
 (qbn n a_w.Am).bind fun r1 =>
 (qaH n r1 1 8).bind fun r2 =>
 bif r2 then
  (qbn n a_w.Bw).bind fun r3 =>
  bif (r3==r1) then
   (qbn n a_w.Bt).bind fun r4 =>
   bif (r4==r1) then
    (qgP n a_w).bind fun r5 =>
    bif r5 then
     (qbN n a_w.Bw 0 1000).bind fun r6 =>
     bif r6 then
      (qbN n a_w.Bt 0 500).bind fun r7 =>
      bif r7 then
       (qbn n a_w.Bl).bind fun r8 =>
       bif (r8==sinks) then
        (qbN n a_w.Bl 0 (W64 (r1-1))).bind fun r9 =>
        some r9
       else
        some false
      else
       some false
     else
      some false
    else
     some false
   else
    some false
  else
   some false
 else
  some false
theorem qqB {a_w:qQ} {sinks:Int} (ha1:GoT.R w (old w) a_w cs1) {r:Bool} (hF:qlg n a_w sinks=some r):RetV Tryz.prog 213 [GoT.v qQ cs1,.int .i64 sinks] w r:=by
 obtain ⟨p1,k1,p2,k2,p3,k3,p4,k4,rfl,s1,s2,s3,s4⟩:=qaM ha1
 refine zV 53 Tryz.func213 rfl fun h=>zSR (qw h rfl rfl fun w1 bb1 h=>X1 6 0 h rfl (zcI h hF (qci ⟨_,_,rfl,(h.oldS s1)⟩) rfl fun r1 w2 h hF=>X0 5 rfl (zcB h hF qax rfl fun r2 w3 h hF=>zp1 rfl (qi (t:=11) hF rfl ?_ ?_))))<;>intro hF
 ·refine X1 5 0 h rfl (zcI h hF (qci ⟨_,_,rfl,(h.oldS s2)⟩) rfl fun r3 w4 h hF=>X0 6 rfl (qi (t:=18) hF rfl ?_ ?_))<;>intro hF
  ·refine X1 5 0 h rfl (zcI h hF (qci ⟨_,_,rfl,(h.oldS s3)⟩) rfl fun r4 w5 h hF=>X0 6 rfl (qi (t:=25) hF rfl ?_ ?_))<;>intro hF
   ·refine X1 3 0 h rfl (zcB h hF (qnw (h.old ha1)) rfl fun r5 w6 h hF=>zp2 rfl (qi (t:=29) hF rfl ?_ ?_))<;>intro hF
    ·refine X1 5 0 h rfl (zcB h hF (qb6 ⟨_,_,rfl,(h.oldS s2)⟩) rfl fun r6 w7 h hF=>zp2 rfl (qi (t:=34) hF rfl ?_ ?_))<;>intro hF
     ·refine X1 5 0 h rfl (zcB h hF (qb6 ⟨_,_,rfl,(h.oldS s3)⟩) rfl fun r7 w8 h hF=>zp2 rfl (qi (t:=39) hF rfl ?_ ?_))<;>intro hF
      ·refine X1 5 0 h rfl (zcI h hF (qci ⟨_,_,rfl,(h.oldS s4)⟩) rfl fun r8 w9 h hF=>X0 6 rfl (qi (t:=46) hF rfl ?_ ?_))<;>intro hF
       ·exact X1 9 0 h rfl (zcB h hF (qb6 ⟨_,_,rfl,(h.oldS s4)⟩) rfl fun r9 w10 h hF=>X0 3 rfl (rb h hF rfl))
       exact X0 8 rfl (rb h hF rfl)
      exact X0 15 rfl (rb h hF rfl)
     exact X0 20 rfl (rb h hF rfl)
    exact X0 25 rfl (rb h hF rfl)
   exact X0 29 rfl (rb h hF rfl)
  exact X0 36 rfl (rb h hF rfl)
 exact X0 43 rfl (rb h hF rfl)
def qeF (b:qf) (x2:(List Int)):Nat→Int→Option (Flow Bool Int)
 | 0,_=>none
 | n+1,i2 =>
  bif decide (i2<(b.Ac.length:Int)) then
   (idx b.Ac i2).bind fun y4 =>
   (idx x2 i2).bind fun y5 =>
   (qlg n y4 y5).bind fun r2 =>
   bif (!r2) then some (.ret false) else
   qeF b x2 n (W64 (i2+1))
  else
   some (.nxt i2)
def qcS (r1:(List Tplace)):Nat→(List Int)→Int→Option ((List Int) × Int)
 | 0,_,_=>none
 | n+1,x2,i1 =>
  bif decide (i1<(r1.length:Int)) then
   (idx r1 i1).bind fun y1 =>
   bif (!y1.drives) then
    (idx x2 y1.net).bind fun y2 =>
    (idx x2 y1.net).bind fun _ =>
    qcS r1 n (setS x2 y1.net (W64 (y2+1))) (W64 (i1+1))
   else
    qcS r1 n x2 (W64 (i1+1))
  else
   some (x2,i1)
def qhW (n:Nat) (b:qf):Option Bool :=
 (
  (qi3 n (⟨b.Ay.Au⟩:qq) (⟨b.Ab.Aa,b.Ab.Ap,b.Ab.Aj⟩:qe)).bind fun r3 =>
  bif (!r3) then some true else
  some ((b.Ac.length:Int) != (b.Ab.Ap.length:Int))).bind fun b1 =>
 bif b1 then some false else
 (mkS (b.Ac.length:Int) (0:Int)).bind fun x1 =>
 (qch n (⟨b.Ab.Aa,b.Ab.Ap,b.Ab.Aj⟩:qe)).bind fun r1 =>
 (qcS r1 n x1 0).bind fun o=>match o with
 | (x2,_) =>
  (qeF b x2 n 0).bind fun o=>match o with
  | .ret r=>some r
  | .nxt _ =>
   some true
theorem qpR {b:qf} (ha1:GoT.R w (old w) b cs1) {r:Bool} (hF:qhW n b=some r):RetV Tryz.prog 186 [GoT.v qf cs1] w r:=by
 obtain ⟨p1,k1,p2,k2,p3,k3,p4,k4,p5,k5,rfl,s1,s2,s3,s4,s5⟩:=qaa ha1
 refine zV 63 Tryz.func186 rfl fun h=>zSR (qw h rfl rfl fun w1 bb1 h=>X0 4 rfl ?_)
 obtain ⟨KF1,hKF1,o3,hF,hK3⟩:=bindE hF
 refine qbp (fun e w'=>∃ (b1:Bool),KF1 b1=some r∧e=[(1,.pointer (some ⟨bb1,0,none⟩)),(23,.bool b1)]∧SH w w' [Ch.box bb1 (qaS b p1 p2 p3 p4 p5 k1 k2 k3 k4 k5) 51]) ?_ ?_
 ·refine X2 5 0 0 h rfl (zcB h hF (qoP (qdS _ (h.oldS s1)) (qap _ (h.oldS s2) (h.oldS s3) (h.oldS s4))) rfl fun r3 w12 h hF=>zp2 rfl (qi (t:=14) hF rfl ?_ ?_))<;>intro hF
  ·refine X0 10 rfl ?_
   obtain rfl:=qb hF
   exact rG ⟨_,hK3,rfl,h⟩ rfl
  refine X2 18 0 0 h rfl ?_
  obtain rfl:=qb hF
  exact rG ⟨_,hK3,rfl,h⟩ rfl
 rintro e3 w13 ⟨b1,hF,rfl,h⟩
 subst hKF1
 refine qh rfl hF ?_ ?_<;>intro hF
 ·exact X0 4 rfl (rb h hF rfl)
 refine X1 6 0 h rfl ?_
 obtain ⟨x1,hx1,hF⟩:=qc hF
 obtain ⟨g1,g2,hx1⟩:=qO hx1
 refine qaj qa Int h rfl rfl rfl rfl rfl rfl rfl rfl rfl g1 g2 hx1 rfl fun w2 S1 p6 h=>X1 7 1 h rfl (zcL h hF (qeq (qap _ (h.oldS s2) (h.oldS s3) (h.oldS s4))) rfl fun r1 w3 S2 p7 k6 h hF=>X0 3 rfl ?_)
 obtain ⟨o1,hF,hK1⟩:=qc hF
 refine qm (rL (fun m e w'=>∃ (x2:(List Int)) (i1:Int),qcS r1 m x2 i1=some o1∧e=[(1,.pointer (some ⟨bb1,0,none⟩)),(3,.slice p6 x1.length x1.length),(30,.slice p7 r1.length k6),(31,.int .i64 (r1.length:Int)),(32,.int .i64 i1)]∧SH w w' [Ch.own S2 (r1:List Tplace) [.slice p7 r1.length k6],Ch.own S1 (x2:List Int) [.slice p6 x1.length x1.length],Ch.box bb1 (qaS b p1 p2 p3 p4 p5 k1 k2 k3 k4 k5) 51]) n ⟨_,_,hF,rfl,h⟩ rfl ?_)
 rintro m1 e1 w4 ⟨x2,i1,hF,rfl,h⟩
 rcases m1 with _|m1
 ·cases hF
 refine X0 5 rfl (qh rfl hF ?_ ?_)<;>intro hF
 ·refine zKSBSR ?_
  obtain ⟨y1,hy1,hF,he1,b2,_,q1,cs2,hp1,hq1,hr2,hc3⟩:=(h.sl 0 rfl).1.ix hF
  obtain rfl:=qgs hr2
  refine zx hp1 hq1 ⟨he1.1,qR he1.2.1 (h.sl 0 rfl).2⟩ rfl (zc 0 hc3 rfl (qj qa h rfl rfl rfl fun w5 bb2 h=>zs 0 h rfl fun w6 h=>X1 7 0 h rfl (qh rfl hF ?_ ?_)))<;>intro hF
  ·refine X1 4 0 h rfl ?_
   obtain ⟨y2,hy2,hF,he2,b3,_,q2,cs3,hp2,hq2,rfl,hc5⟩:=(h.sl 2 rfl).1.ix hF
   refine zx hp2 hq2 ⟨he2.1,qR he2.2.1 (h.sl 2 rfl).2⟩ rfl (zc 0 hc5 rfl (zp1 rfl ?_))
   obtain ⟨y3,hy3,hF,he3,b4,_,q3,cs4,hp3,hq3,rfl,hc6⟩:=(h.sl 2 rfl).1.ix hF
   refine zx hp3 hq3 ⟨he3.1,qR he3.2.1 (h.sl 2 rfl).2⟩ rfl (qbx qa 2 0 (W64 (y2+1)) h rfl hy3 hp3 hq3 rfl hc6 rfl rfl rfl rfl rfl rfl rfl fun w7 h=>X0 6 rfl ?_)
   replace h:=h.pick [1,2,3] rfl
   exact rK ⟨_,_,hF,rfl,h⟩ rfl
  refine X0 6 rfl ?_
  replace h:=h.pick [1,2,3] rfl
  exact rK ⟨_,_,hF,rfl,h⟩ rfl
 refine qu rfl ?_
 obtain rfl:=qb hF;replace hF:=hK1
 refine X1 8 2 h rfl ?_
 obtain ⟨o2,hF,hK2⟩:=qc hF
 refine qm ?_
 replace h:=h.pick [1] rfl
 refine rL (fun m e w'=>∃ (i2:Int),qeF b x2 m i2=some o2∧e=[(3,.slice p6 x1.length x1.length),(48,.slice p5 b.Ac.length k5),(49,.int .i64 (b.Ac.length:Int)),(50,.int .i64 i2)]∧SH w w' [Ch.own S1 (x2:List Int) [.slice p6 x1.length x1.length]]) n ⟨_,hF,rfl,h⟩ rfl ?_
 rintro m2 e2 w8 ⟨i2,hF,rfl,h⟩
 rcases m2 with _|m2
 ·cases hF
 refine X0 5 rfl (qh rfl hF ?_ ?_)<;>intro hF
 ·refine X0 6 rfl ?_
  obtain ⟨y4,hy4,hF,he4,b5,_,q4,cs5,hp4,hq4,hr5,hc8⟩:=s5.ix hF
  obtain ⟨p8,k7,p9,k8,p10,k9,p11,k10,rfl,s6,s7,s8,s9⟩:=qaM hr5
  refine zxe hp4 hq4 he4 rfl (zc 0 (hc8.below h.below) rfl (qj qa h rfl rfl rfl fun w9 bb3 h=>zp1 rfl (zs 0 h rfl fun w10 h=>zNS (rD (Y1 1 0 h rfl ?_)))))
  refine zd2 rfl ?_
  obtain ⟨y5,hy5,hF,he5,b6,_,q5,cs6,hp5,hq5,rfl,hc9⟩:=(h.sl 1 rfl).1.ix hF
  refine zdx hp5 hq5 ⟨he5.1,qR he5.2.1 (h.sl 1 rfl).2⟩ rfl (zdc 0 hc9 rfl ?_)
  obtain ⟨r2,hr7,hF⟩:=qc hF
  refine qaQ r2 (vsB _) (cB 213 rfl) (fun _ hb=>qqB (qke y4 ((h.ext hb).oldS s6) ((h.ext hb).oldS s7) ((h.ext hb).oldS s8) ((h.ext hb).oldS s9)) hr7) rfl rfl rfl rfl (zd1 rfl (dN h fun w11 h=>qh rfl hF ?_ ?_))<;>intro hF
  ·refine X0 4 rfl ?_
   obtain rfl:=qb hF;replace hF:=hK2
   exact rb h hF rfl
  refine X0 6 rfl ?_
  replace h:=h.pick [1] rfl
  exact rK ⟨_,hF,rfl,h⟩ rfl
 refine qu rfl ?_
 obtain rfl:=qb hF;replace hF:=hK2
 exact X0 4 rfl (rb h hF rfl)
end Go.Fw


namespace Go.Fw
open Go
def qcL (a:(List Int)):Nat:=a.length
theorem qds {a:(List Int)} (h:(rngL rngI) a) (w:qcL a≤1048576):(okL okI) a :=
 ⟨by simp only [qcL] at w;omega,fun x hx=>h.2 x hx⟩
def qhV (x:qx):Prop:=(rngL rngI) x.Bm∧(rngL rngI) x.Bj∧(rngL rngI) x.Bh
def qfI (x:qx):Nat:=qcL x.Bm+qcL x.Bj+qcL x.Bh
structure qh3 (x:qx):Prop where
 Bm:(okL okI) x.Bm
 Bj:(okL okI) x.Bj
 Bh:(okL okI) x.Bh
theorem qt5 {x:qx} (h:qhV x) (w:qfI x≤1048576):qh3 x:=⟨qds (h.1) (by simp only [qfI] at w;omega),qds (h.2.1) (by simp only [qfI] at w;omega),qds (h.2.2) (by simp only [qfI] at w;omega)⟩
def qfW (a:(List qx)):Nat:=a.length+(a.map fun x=>qfI x).sum
theorem qpu {a:(List qx)} (h:(rngL qhV) a) (w:qfW a≤1048576):(okL qh3) a :=
 ⟨by simp only [qfW] at w;omega,fun x hx=>qt5 (h.2 x hx) (by have:=qew (wt:=fun x:qx=>qfI x) hx;simp only [qfW] at w;omega)⟩
def qlU (x:qP):Prop:=rngI x.Bf∧rngI x.Bk∧rngI x.To∧rngI x.Bn∧(rngL qhV) x.Bp∧(rngL qhV) x.Bc
def qlj (x:qP):Nat:=qfW x.Bp+qfW x.Bc
structure qn2 (x:qP):Prop where
 Bf:okI x.Bf
 Bk:okI x.Bk
 To:okI x.To
 Bn:okI x.Bn
 Bp:(okL qh3) x.Bp
 Bc:(okL qh3) x.Bc
theorem qw3 {x:qP} (h:qlU x) (w:qlj x≤1048576):qn2 x:=⟨h.1,h.2.1,h.2.2.1,h.2.2.2.1,qpu (h.2.2.2.2.1) (by simp only [qlj] at w;omega),qpu (h.2.2.2.2.2) (by simp only [qlj] at w;omega)⟩
theorem qfx {a:(List Int)} (h:qcL a≤1048576):Ev (fun n=>qbo n a a) true:=by
 have hl:a.length≤1048576:=by simp only [qcL] at h;omega
 unfold qbo
 exact Ev.ff (by simp) (Ev.bind (b:=.nxt (a.length:Int)) (qi8 (eqf:=fun _ x y=>some (!(x != y))) (fun x _=>Ev.now (by simp))
  (fun n=>by simp only [qfw,ql (jb _),cond_false])
  (fun n j x hx=>by
   have hj:=(List.getElem?_eq_some_iff.1 hx).1
   simp only [qfw,qk hj,cond_true,qaz hx,ja,Bool.not_not,wS j])) .done)
theorem qw7 {a:qx} (h:qfI a≤1048576):Ev (fun n=>qiB n a a) true:=by
 unfold qiB
 simp only [qfI] at h
 exact Ev.bind (qfx (a:=a.Bm) (by omega)) (Ev.ff rfl (Ev.bind (qfx (a:=a.Bj) (by omega)) (Ev.ff rfl (Ev.bind (qfx (a:=a.Bh) (by omega)) (Ev.ff rfl (.done))))))
theorem qrC {a:(List qx)} (h:qfW a≤1048576):Ev (fun n=>qht n a a) true:=by
 have hl:a.length≤1048576:=by simp only [qfW] at h;omega
 unfold qht
 exact Ev.ff (by simp) (Ev.bind (b:=.nxt (a.length:Int)) (qi8 (eqf:=qiB) (fun x hx=>qw7 (by have:=qew (wt:=fun x:qx=>qfI x) hx;simp only [qfW] at h;omega))
  (fun n=>by simp only [qff,ql (jb _),cond_false])
  (fun n j x hx=>by
   have hj:=(List.getElem?_eq_some_iff.1 hx).1
   simp only [qff,qk hj,cond_true,qaz hx,ja,wS j])) .done)
theorem qyw {a:qP} (h:qlj a≤1048576):Ev (fun n=>qkH n a a) true:=by
 unfold qkH
 simp only [qlj] at h
 exact Ev.ff qaW (Ev.ff qaW (Ev.ff qaW (Ev.ff qaW (Ev.bind (qrC (a:=a.Bp) (by omega)) (Ev.ff rfl (Ev.bind (qrC (a:=a.Bc) (by omega)) (Ev.ff rfl (.done))))))))
def qkq (a:(List qP)):Nat:=a.length+(a.map fun x=>qlj x).sum
theorem qvP {a:(List qP)} (h:(rngL qlU) a) (w:qkq a≤1048576):(okL qn2) a :=
 ⟨by simp only [qkq] at w;omega,fun x hx=>qw3 (h.2 x hx) (by have:=qew (wt:=fun x:qP=>qlj x) hx;simp only [qkq] at w;omega)⟩
theorem qxK {a:(List qP)} (h:qkq a≤1048576):Ev (fun n=>qlc n a a) true:=by
 have hl:a.length≤1048576:=by simp only [qkq] at h;omega
 unfold qlc
 exact Ev.ff (by simp) (Ev.bind (b:=.nxt (a.length:Int)) (qi8 (eqf:=qkH) (fun x hx=>qyw (by have:=qew (wt:=fun x:qP=>qlj x) hx;simp only [qkq] at h;omega))
  (fun n=>by simp only [qgp,ql (jb _),cond_false])
  (fun n j x hx=>by
   have hj:=(List.getElem?_eq_some_iff.1 hx).1
   simp only [qgp,qk hj,cond_true,qaz hx,ja,wS j])) .done)
def ql2 (x:qaq):Prop:=rngS x.Bb∧rngI x.Bv∧rngI x.Bt∧rngB x.Bq
def qmT (x:qaq):Nat:=x.Bb.size
structure qmY (x:qaq):Prop where
 Bb:okS x.Bb
 Bv:okI x.Bv
 Bt:okI x.Bt
 Bq:okT x.Bq
theorem qw0 {x:qaq} (h:ql2 x) (w:qmT x≤1048576):qmY x:=⟨(by unfold okS;simp only [qmT] at w;omega),h.2.1,h.2.2.1,trivial⟩
def qkj (a:(List qaq)):Nat:=a.length+(a.map fun x=>qmT x).sum
theorem qvf {a:(List qaq)} (h:(rngL ql2) a) (w:qkj a≤1048576):(okL qmY) a :=
 ⟨by simp only [qkj] at w;omega,fun x hx=>qw0 (h.2 x hx) (by have:=qew (wt:=fun x:qaq=>qmT x) hx;simp only [qkj] at w;omega)⟩
def qkz (x:qB):Prop:=rngS x.Bb∧rngI x.Bf∧(rngL ql2) x.Be∧(rngL qlU) x.Av∧(rngL rngI) x.Br∧rngI x.Ca∧rngI x.Bu
def qhd (x:qB):Nat:=x.Bb.size+qkj x.Be+qkq x.Av+qcL x.Br
structure qnk (x:qB):Prop where
 Bb:okS x.Bb
 Bf:okI x.Bf
 Be:(okL qmY) x.Be
 Av:(okL qn2) x.Av
 Br:(okL okI) x.Br
 Ca:okI x.Ca
 Bu:okI x.Bu
theorem qvC {x:qB} (h:qkz x) (w:qhd x≤1048576):qnk x:=⟨(by unfold okS;simp only [qhd] at w;omega),h.2.1,qvf (h.2.2.1) (by simp only [qhd] at w;omega),qvP (h.2.2.2.1) (by simp only [qhd] at w;omega),qds (h.2.2.2.2.1) (by simp only [qhd] at w;omega),h.2.2.2.2.2.1,h.2.2.2.2.2.2⟩
def qix (a:(List qB)):Nat:=a.length+(a.map fun x=>qhd x).sum
theorem qtX {a:(List qB)} (h:(rngL qkz) a) (w:qix a≤1048576):(okL qnk) a :=
 ⟨by simp only [qix] at w;omega,fun x hx=>qvC (h.2 x hx) (by have:=qew (wt:=fun x:qB=>qhd x) hx;simp only [qix] at w;omega)⟩
def qk2 (x:qq):Prop:=(rngL qkz) x.Au
def qgU (x:qq):Nat:=qix x.Au
structure qhL (x:qq):Prop where
 Au:(okL qnk) x.Au
theorem qso {x:qq} (h:qk2 x) (w:qgU x≤1048576):qhL x:=⟨qtX (h) (by simp only [qgU] at w;omega)⟩
def qfN (x:qp):Prop:=rngS x.Bb∧rngI x.Bs∧(rngL rngI) x.Ap
def qcM (x:qp):Nat:=x.Bb.size+qcL x.Ap
structure qm9 (x:qp):Prop where
 Bb:okS x.Bb
 Bs:okI x.Bs
 Ap:(okL okI) x.Ap
theorem qrt {x:qp} (h:qfN x) (w:qcM x≤1048576):qm9 x:=⟨(by unfold okS;simp only [qcM] at w;omega),h.2.1,qds (h.2.2) (by simp only [qcM] at w;omega)⟩
def qdm (a:(List qp)):Nat:=a.length+(a.map fun x=>qcM x).sum
theorem qqq {a:(List qp)} (h:(rngL qfN) a) (w:qdm a≤1048576):(okL qm9) a :=
 ⟨by simp only [qdm] at w;omega,fun x hx=>qrt (h.2 x hx) (by have:=qew (wt:=fun x:qp=>qcM x) hx;simp only [qdm] at w;omega)⟩
def qgQ (a:(List ByteArray)):Nat:=a.length+(a.map fun x=>x.size).sum
theorem qr7 {a:(List ByteArray)} (_:(rngL rngS) a) (w:qgQ a≤1048576):(okL okS) a :=
 ⟨by simp only [qgQ] at w;omega,fun x hx=>(by unfold okS;have:=qew (wt:=fun x:ByteArray=>x.size) hx;simp only [qgQ] at w;omega)⟩
def qkE (x:qan):Prop:=rngS x.Bb∧rngI x.Bv∧rngI x.Bx
def qkn (x:qan):Nat:=x.Bb.size
structure qsb (x:qan):Prop where
 Bb:okS x.Bb
 Bv:okI x.Bv
 Bx:okI x.Bx
theorem qu0 {x:qan} (h:qkE x) (w:qkn x≤1048576):qsb x:=⟨(by unfold okS;simp only [qkn] at w;omega),h.2.1,h.2.2⟩
def qit (a:(List qan)):Nat:=a.length+(a.map fun x=>qkn x).sum
theorem qui {a:(List qan)} (h:(rngL qkE) a) (w:qit a≤1048576):(okL qsb) a :=
 ⟨by simp only [qit] at w;omega,fun x hx=>qu0 (h.2 x hx) (by have:=qew (wt:=fun x:qan=>qkn x) hx;simp only [qit] at w;omega)⟩
def ql7 (x:qe):Prop:=(rngL qfN) x.Aa∧(rngL rngS) x.Ap∧(rngL qkE) x.Aj
def qgu (x:qe):Nat:=qdm x.Aa+qgQ x.Ap+qit x.Aj
structure qka (x:qe):Prop where
 Aa:(okL qm9) x.Aa
 Ap:(okL okS) x.Ap
 Aj:(okL qsb) x.Aj
theorem qta {x:qe} (h:ql7 x) (w:qgu x≤1048576):qka x:=⟨qqq (h.1) (by simp only [qgu] at w;omega),qr7 (h.2.1) (by simp only [qgu] at w;omega),qui (h.2.2) (by simp only [qgu] at w;omega)⟩
def qkl (x:qQ):Prop:=(rngL rngI) x.Am∧(rngL rngI) x.Bw∧(rngL rngI) x.Bt∧(rngL rngI) x.Bl
def qhe (x:qQ):Nat:=qcL x.Am+qcL x.Bw+qcL x.Bt+qcL x.Bl
structure qoh (x:qQ):Prop where
 Am:(okL okI) x.Am
 Bw:(okL okI) x.Bw
 Bt:(okL okI) x.Bt
 Bl:(okL okI) x.Bl
theorem qvK {x:qQ} (h:qkl x) (w:qhe x≤1048576):qoh x:=⟨qds (h.1) (by simp only [qhe] at w;omega),qds (h.2.1) (by simp only [qhe] at w;omega),qds (h.2.2.1) (by simp only [qhe] at w;omega),qds (h.2.2.2) (by simp only [qhe] at w;omega)⟩
def qiA (a:(List qQ)):Nat:=a.length+(a.map fun x=>qhe x).sum
theorem qup {a:(List qQ)} (h:(rngL qkl) a) (w:qiA a≤1048576):(okL qoh) a :=
 ⟨by simp only [qiA] at w;omega,fun x hx=>qvK (h.2 x hx) (by have:=qew (wt:=fun x:qQ=>qhe x) hx;simp only [qiA] at w;omega)⟩
def qnr (x:qf):Prop:=qk2 x.Ay∧ql7 x.Ab∧(rngL qkl) x.Ac
def qik (x:qf):Nat:=qgU x.Ay+qgu x.Ab+qiA x.Ac
structure qlv (x:qf):Prop where
 Ay:qhL x.Ay
 Ab:qka x.Ab
 Ac:(okL qoh) x.Ac
theorem qtW {x:qf} (h:qnr x) (w:qik x≤1048576):qlv x:=⟨qso (h.1) (by simp only [qik] at w;omega),qta (h.2.1) (by simp only [qik] at w;omega),qup (h.2.2) (by simp only [qik] at w;omega)⟩
theorem qyL {a:qaq} (_:qmT a≤1048576):Ev (fun n=>qku n a a) true:=by
 unfold qku
 exact Ev.ff qif (Ev.ff qaW (Ev.ff qaW (Ev.ff qsv (.done))))
theorem qxH {a:(List qaq)} (h:qkj a≤1048576):Ev (fun n=>qk6 n a a) true:=by
 have hl:a.length≤1048576:=by simp only [qkj] at h;omega
 unfold qk6
 exact Ev.ff (by simp) (Ev.bind (b:=.nxt (a.length:Int)) (qi8 (eqf:=qku) (fun x hx=>qyL (by have:=qew (wt:=fun x:qaq=>qmT x) hx;simp only [qkj] at h;omega))
  (fun n=>by simp only [qgJ,ql (jb _),cond_false])
  (fun n j x hx=>by
   have hj:=(List.getElem?_eq_some_iff.1 hx).1
   simp only [qgJ,qk hj,cond_true,qaz hx,ja,wS j])) .done)
theorem qx0 {a:qB} (h:qhd a≤1048576):Ev (fun n=>qjB n a a) true:=by
 unfold qjB
 simp only [qhd] at h
 exact Ev.ff qif (Ev.ff qaW (Ev.bind (qxH (a:=a.Be) (by omega)) (Ev.ff rfl (Ev.bind (qxK (a:=a.Av) (by omega)) (Ev.ff rfl (Ev.bind (qfx (a:=a.Br) (by omega)) (Ev.ff rfl (Ev.ff qaW (Ev.ff qaW (.done))))))))))
theorem qwD {a:(List qB)} (h:qix a≤1048576):Ev (fun n=>qj6 n a a) true:=by
 have hl:a.length≤1048576:=by simp only [qix] at h;omega
 unfold qj6
 exact Ev.ff (by simp) (Ev.bind (b:=.nxt (a.length:Int)) (qi8 (eqf:=qjB) (fun x hx=>qx0 (by have:=qew (wt:=fun x:qB=>qhd x) hx;simp only [qix] at h;omega))
  (fun n=>by simp only [qfV,ql (jb _),cond_false])
  (fun n j x hx=>by
   have hj:=(List.getElem?_eq_some_iff.1 hx).1
   simp only [qfV,qk hj,cond_true,qaz hx,ja,wS j])) .done)
theorem quk {a:qq} (h:qgU a≤1048576):Ev (fun n=>qiy n a a) true:=by
 unfold qiy
 simp only [qgU] at h
 exact Ev.bind (qwD (a:=a.Au) (by omega)) (Ev.ff rfl (.done))
theorem qtp {a:qp} (h:qcM a≤1048576):Ev (fun n=>qfT n a a) true:=by
 unfold qfT
 simp only [qcM] at h
 exact Ev.ff qif (Ev.ff qaW (Ev.bind (qfx (a:=a.Ap) (by omega)) (Ev.ff rfl (.done))))
theorem qsq {a:(List qp)} (h:qdm a≤1048576):Ev (fun n=>qgV n a a) true:=by
 have hl:a.length≤1048576:=by simp only [qdm] at h;omega
 unfold qgV
 exact Ev.ff (by simp) (Ev.bind (b:=.nxt (a.length:Int)) (qi8 (eqf:=qfT) (fun x hx=>qtp (by have:=qew (wt:=fun x:qp=>qcM x) hx;simp only [qdm] at h;omega))
  (fun n=>by simp only [qdO,ql (jb _),cond_false])
  (fun n j x hx=>by
   have hj:=(List.getElem?_eq_some_iff.1 hx).1
   simp only [qdO,qk hj,cond_true,qaz hx,ja,wS j])) .done)
theorem qtR {a:(List ByteArray)} (h:qgQ a≤1048576):Ev (fun n=>qin n a a) true:=by
 have hl:a.length≤1048576:=by simp only [qgQ] at h;omega
 unfold qin
 exact Ev.ff (by simp) (Ev.bind (b:=.nxt (a.length:Int)) (qi8 (eqf:=fun _ x y=>some (!(x.toList != y.toList))) (fun x _=>Ev.now (by simp))
  (fun n=>by simp only [qeS,ql (jb _),cond_false])
  (fun n j x hx=>by
   have hj:=(List.getElem?_eq_some_iff.1 hx).1
   simp only [qeS,qk hj,cond_true,qaz hx,ja,Bool.not_not,wS j])) .done)
theorem qxr {a:qan} (_:qkn a≤1048576):Ev (fun n=>qjC n a a) true:=by
 unfold qjC
 exact Ev.ff qif (Ev.ff qaW (Ev.ff qaW (.done)))
theorem qwn {a:(List qan)} (h:qit a≤1048576):Ev (fun n=>qjR n a a) true:=by
 have hl:a.length≤1048576:=by simp only [qit] at h;omega
 unfold qjR
 exact Ev.ff (by simp) (Ev.bind (b:=.nxt (a.length:Int)) (qi8 (eqf:=qjC) (fun x hx=>qxr (by have:=qew (wt:=fun x:qan=>qkn x) hx;simp only [qit] at h;omega))
  (fun n=>by simp only [qfZ,ql (jb _),cond_false])
  (fun n j x hx=>by
   have hj:=(List.getElem?_eq_some_iff.1 hx).1
   simp only [qfZ,qk hj,cond_true,qaz hx,ja,wS j])) .done)
theorem qvo {a:qe} (h:qgu a≤1048576):Ev (fun n=>qja n a a) true:=by
 unfold qja
 simp only [qgu] at h
 exact Ev.bind (qsq (a:=a.Aa) (by omega)) (Ev.ff rfl (Ev.bind (qtR (a:=a.Ap) (by omega)) (Ev.ff rfl (Ev.bind (qwn (a:=a.Aj) (by omega)) (Ev.ff rfl (.done))))))
theorem qxn {a:qQ} (h:qhe a≤1048576):Ev (fun n=>qjy n a a) true:=by
 unfold qjy
 simp only [qhe] at h
 exact Ev.bind (qfx (a:=a.Am) (by omega)) (Ev.ff rfl (Ev.bind (qfx (a:=a.Bw) (by omega)) (Ev.ff rfl (Ev.bind (qfx (a:=a.Bt) (by omega)) (Ev.ff rfl (Ev.bind (qfx (a:=a.Bl) (by omega)) (Ev.ff rfl (.done))))))))
theorem qwf {a:(List qQ)} (h:qiA a≤1048576):Ev (fun n=>qjU n a a) true:=by
 have hl:a.length≤1048576:=by simp only [qiA] at h;omega
 unfold qjU
 exact Ev.ff (by simp) (Ev.bind (b:=.nxt (a.length:Int)) (qi8 (eqf:=qjy) (fun x hx=>qxn (by have:=qew (wt:=fun x:qQ=>qhe x) hx;simp only [qiA] at h;omega))
  (fun n=>by simp only [qfS,ql (jb _),cond_false])
  (fun n j x hx=>by
   have hj:=(List.getElem?_eq_some_iff.1 hx).1
   simp only [qfS,qk hj,cond_true,qaz hx,ja,wS j])) .done)
theorem qv0 {a:qf} (h:qik a≤1048576):Ev (fun n=>qjN n a a) true:=by
 unfold qjN
 simp only [qik] at h
 exact Ev.bind (quk (a:=a.Ay) (by omega)) (Ev.ff rfl (Ev.bind (qvo (a:=a.Ab) (by omega)) (Ev.ff rfl (Ev.bind (qwf (a:=a.Ac) (by omega)) (Ev.ff rfl (.done))))))
theorem qf5 {a:(List Int)} {left:Int} (h:(rngL rngI) a) (h0:0≤left) (h1:left≤1048576):Sz (fun n=>qbR n a left) (fun r=>r=left-(qcL a:Int)) :=
 Sz.less h0 h1 (by omega) (by have:=h.1;omega) (fun _=>rfl)
theorem qvU {a:qx} {left:Int} (h:qhV a) (h0:0≤left) (h1:left≤1048576):Sz (fun n=>qii n a left) (fun r=>r=left-(qfI a:Int)):=by
 unfold qii
 obtain ⟨h_0,h_1,h_2⟩:=h
 exact Sz.step (qf5 (a:=a.Bm) h_0 (by omega) (by omega)) fun r0 p0 q0=>Sz.step (qf5 (a:=a.Bj) h_1 (by omega) (by omega)) fun r1 p1 q1=>Sz.step (qf5 (a:=a.Bh) h_2 (by omega) (by omega)) fun r2 p2 q2=>Sz.done p2 (by simp only [qfI];omega)
theorem qrV {a:(List qx)} {left:Int} (h:(rngL qhV) a) (h0:0≤left) (h1:left≤1048576):Sz (fun n=>qi5 n a left) (fun r=>r=left-(qfW a:Int)) :=
 Sz.list (Lf:=qd9 a) (wt:=fun x:qx=>qfI x) (el:=qii) h0 h1 h.1 (fun x hx left p q=>qvU (h.2 x hx) p q)
  (fun acc n=>by simp only [qd9,ql (jb _),cond_false])
  (fun acc n j x hx=>by
   have hj:=(List.getElem?_eq_some_iff.1 hx).1
   have hl:=h.1
   simp only [qd9,qk hj,cond_true,qaz hx,ja,wS j])
  (fun _=>rfl)
theorem qyl {a:qP} {left:Int} (h:qlU a) (h0:0≤left) (h1:left≤1048576):Sz (fun n=>qky n a left) (fun r=>r=left-(qlj a:Int)):=by
 unfold qky
 obtain ⟨h_0,h_1,h_2,h_3,h_4,h_5⟩:=h
 exact Sz.step (qrV (a:=a.Bp) h_4 (by omega) (by omega)) fun r0 p0 q0=>Sz.step (qrV (a:=a.Bc) h_5 (by omega) (by omega)) fun r1 p1 q1=>Sz.done p1 (by simp only [qlj];omega)
theorem qxE {a:(List qP)} {left:Int} (h:(rngL qlU) a) (h0:0≤left) (h1:left≤1048576):Sz (fun n=>qnf n a left) (fun r=>r=left-(qkq a:Int)) :=
 Sz.list (Lf:=qfh a) (wt:=fun x:qP=>qlj x) (el:=qky) h0 h1 h.1 (fun x hx left p q=>qyl (h.2 x hx) p q)
  (fun acc n=>by simp only [qfh,ql (jb _),cond_false])
  (fun acc n j x hx=>by
   have hj:=(List.getElem?_eq_some_iff.1 hx).1
   have hl:=h.1
   simp only [qfh,qk hj,cond_true,qaz hx,ja,wS j])
  (fun _=>rfl)
theorem qyC {a:qaq} {left:Int} (h:ql2 a) (h0:0≤left) (h1:left≤1048576):Sz (fun n=>qkr n a left) (fun r=>r=left-(qmT a:Int)):=by
 unfold qkr
 obtain ⟨h_0,h_1,h_2,h_3⟩:=h
 exact Sz.strStep h_0 (by omega) (by omega) fun p0 q0=>Sz.done p0 (by simp only [qmT];omega)
theorem qxN {a:(List qaq)} {left:Int} (h:(rngL ql2) a) (h0:0≤left) (h1:left≤1048576):Sz (fun n=>qng n a left) (fun r=>r=left-(qkj a:Int)) :=
 Sz.list (Lf:=qfn a) (wt:=fun x:qaq=>qmT x) (el:=qkr) h0 h1 h.1 (fun x hx left p q=>qyC (h.2 x hx) p q)
  (fun acc n=>by simp only [qfn,ql (jb _),cond_false])
  (fun acc n j x hx=>by
   have hj:=(List.getElem?_eq_some_iff.1 hx).1
   have hl:=h.1
   simp only [qfn,qk hj,cond_true,qaz hx,ja,wS j])
  (fun _=>rfl)
theorem qxg {a:qB} {left:Int} (h:qkz a) (h0:0≤left) (h1:left≤1048576):Sz (fun n=>qji n a left) (fun r=>r=left-(qhd a:Int)):=by
 unfold qji
 obtain ⟨h_0,h_1,h_2,h_3,h_4,h_5,h_6⟩:=h
 exact Sz.strStep h_0 (by omega) (by omega) fun p0 q0=>Sz.step (qxN (a:=a.Be) h_2 (by omega) (by omega)) fun r1 p1 q1=>Sz.step (qxE (a:=a.Av) h_3 (by omega) (by omega)) fun r2 p2 q2=>Sz.step (qf5 (a:=a.Br) h_4 (by omega) (by omega)) fun r3 p3 q3=>Sz.done p3 (by simp only [qhd];omega)
theorem qwu {a:(List qB)} {left:Int} (h:(rngL qkz) a) (h0:0≤left) (h1:left≤1048576):Sz (fun n=>qmn n a left) (fun r=>r=left-(qix a:Int)) :=
 Sz.list (Lf:=qeB a) (wt:=fun x:qB=>qhd x) (el:=qji) h0 h1 h.1 (fun x hx left p q=>qxg (h.2 x hx) p q)
  (fun acc n=>by simp only [qeB,ql (jb _),cond_false])
  (fun acc n j x hx=>by
   have hj:=(List.getElem?_eq_some_iff.1 hx).1
   have hl:=h.1
   simp only [qeB,qk hj,cond_true,qaz hx,ja,wS j])
  (fun _=>rfl)
theorem qt7 {a:qq} {left:Int} (h:qk2 a) (h0:0≤left) (h1:left≤1048576):Sz (fun n=>qh5 n a left) (fun r=>r=left-(qgU a:Int)):=by
 unfold qh5
 have h_0:=h
 exact Sz.step (qwu (a:=a.Au) h_0 (by omega) (by omega)) fun r0 p0 q0=>Sz.done p0 (by simp only [qgU];omega)
theorem qtC {a:qp} {left:Int} (h:qfN a) (h0:0≤left) (h1:left≤1048576):Sz (fun n=>qfY n a left) (fun r=>r=left-(qcM a:Int)):=by
 unfold qfY
 obtain ⟨h_0,h_1,h_2⟩:=h
 exact Sz.strStep h_0 (by omega) (by omega) fun p0 q0=>Sz.step (qf5 (a:=a.Ap) h_2 (by omega) (by omega)) fun r1 p1 q1=>Sz.done p1 (by simp only [qcM];omega)
theorem qsu {a:(List qp)} {left:Int} (h:(rngL qfN) a) (h0:0≤left) (h1:left≤1048576):Sz (fun n=>qiU n a left) (fun r=>r=left-(qdm a:Int)) :=
 Sz.list (Lf:=qcO a) (wt:=fun x:qp=>qcM x) (el:=qfY) h0 h1 h.1 (fun x hx left p q=>qtC (h.2 x hx) p q)
  (fun acc n=>by simp only [qcO,ql (jb _),cond_false])
  (fun acc n j x hx=>by
   have hj:=(List.getElem?_eq_some_iff.1 hx).1
   have hl:=h.1
   simp only [qcO,qk hj,cond_true,qaz hx,ja,wS j])
  (fun _=>rfl)
theorem qun {a:(List ByteArray)} {left:Int} (h:(rngL rngS) a) (h0:0≤left) (h1:left≤1048576):Sz (fun n=>qkI n a left) (fun r=>r=left-(qgQ a:Int)) :=
 Sz.list (Lf:=qdu a) (wt:=fun x:ByteArray=>x.size) (el:=fun _ (x:ByteArray) acc=>some (W64 (acc-(x.size:Int)))) h0 h1 h.1 (fun x hx left p q=>Sz.str (h.2 x hx) p q)
  (fun acc n=>by simp only [qdu,ql (jb _),cond_false])
  (fun acc n j x hx=>by
   have hj:=(List.getElem?_eq_some_iff.1 hx).1
   have hl:=h.1
   simp only [qdu,qk hj,cond_true,qaz hx,ja,wS j])
  (fun _=>rfl)
theorem qxV {a:qan} {left:Int} (h:qkE a) (h0:0≤left) (h1:left≤1048576):Sz (fun n=>qjh n a left) (fun r=>r=left-(qkn a:Int)):=by
 unfold qjh
 obtain ⟨h_0,h_1,h_2⟩:=h
 exact Sz.strStep h_0 (by omega) (by omega) fun p0 q0=>Sz.done p0 (by simp only [qkn];omega)
theorem qwA {a:(List qan)} {left:Int} (h:(rngL qkE) a) (h0:0≤left) (h1:left≤1048576):Sz (fun n=>qmc n a left) (fun r=>r=left-(qit a:Int)) :=
 Sz.list (Lf:=qeH a) (wt:=fun x:qan=>qkn x) (el:=qjh) h0 h1 h.1 (fun x hx left p q=>qxV (h.2 x hx) p q)
  (fun acc n=>by simp only [qeH,ql (jb _),cond_false])
  (fun acc n j x hx=>by
   have hj:=(List.getElem?_eq_some_iff.1 hx).1
   have hl:=h.1
   simp only [qeH,qk hj,cond_true,qaz hx,ja,wS j])
  (fun _=>rfl)
theorem qvN {a:qe} {left:Int} (h:ql7 a) (h0:0≤left) (h1:left≤1048576):Sz (fun n=>qiX n a left) (fun r=>r=left-(qgu a:Int)):=by
 unfold qiX
 obtain ⟨h_0,h_1,h_2⟩:=h
 exact Sz.step (qsu (a:=a.Aa) h_0 (by omega) (by omega)) fun r0 p0 q0=>Sz.step (qun (a:=a.Ap) h_1 (by omega) (by omega)) fun r1 p1 q1=>Sz.step (qwA (a:=a.Aj) h_2 (by omega) (by omega)) fun r2 p2 q2=>Sz.done p2 (by simp only [qgu];omega)
theorem qxM {a:qQ} {left:Int} (h:qkl a) (h0:0≤left) (h1:left≤1048576):Sz (fun n=>qjA n a left) (fun r=>r=left-(qhe a:Int)):=by
 unfold qjA
 obtain ⟨h_0,h_1,h_2,h_3⟩:=h
 exact Sz.step (qf5 (a:=a.Am) h_0 (by omega) (by omega)) fun r0 p0 q0=>Sz.step (qf5 (a:=a.Bw) h_1 (by omega) (by omega)) fun r1 p1 q1=>Sz.step (qf5 (a:=a.Bt) h_2 (by omega) (by omega)) fun r2 p2 q2=>Sz.step (qf5 (a:=a.Bl) h_3 (by omega) (by omega)) fun r3 p3 q3=>Sz.done p3 (by simp only [qhe];omega)
theorem qvV {a:(List qQ)} {left:Int} (h:(rngL qkl) a) (h0:0≤left) (h1:left≤1048576):Sz (fun n=>qmj n a left) (fun r=>r=left-(qiA a:Int)) :=
 Sz.list (Lf:=qey a) (wt:=fun x:qQ=>qhe x) (el:=qjA) h0 h1 h.1 (fun x hx left p q=>qxM (h.2 x hx) p q)
  (fun acc n=>by simp only [qey,ql (jb _),cond_false])
  (fun acc n j x hx=>by
   have hj:=(List.getElem?_eq_some_iff.1 hx).1
   have hl:=h.1
   simp only [qey,qk hj,cond_true,qaz hx,ja,wS j])
  (fun _=>rfl)
theorem qwO {a:qf} {left:Int} (h:qnr a) (h0:0≤left) (h1:left≤1048576):Sz (fun n=>qjO n a left) (fun r=>r=left-(qik a:Int)):=by
 unfold qjO
 obtain ⟨h_0,h_1,h_2⟩:=h
 exact Sz.step (qt7 (a:=a.Ay) h_0 (by omega) (by omega)) fun r0 p0 q0=>Sz.step (qvN (a:=a.Ab) h_1 (by omega) (by omega)) fun r1 p1 q1=>Sz.step (qvV (a:=a.Ac) h_2 (by omega) (by omega)) fun r2 p2 q2=>Sz.done p2 (by simp only [qik];omega)
theorem qed {a:(List Int)} (h:qcL a≤1048576):Ev (fun n=>qaR n a) a:=by
 have hl:a.length≤1048576:=by simp only [qcL] at h;omega
 unfold qaR
 exact Ev.bindN (qic (by omega)) (Ev.bind (b:=(a,(a.length:Int))) (qi1 (cp:=fun _ x=>some x) (fun _ _=>.done)
  (fun acc n=>by simp only [qfj,ql (jb _),cond_false])
  (fun acc n j x y hx hy=>by
   have hj:=(List.getElem?_eq_some_iff.1 hx).1
   simp only [qfj,qk hj,cond_true,qaz hx,qaz hy,ja,wS j])) .done)
theorem qvT {a:qx} (h:qfI a≤1048576):Ev (fun n=>qh0 n a) a:=by
 unfold qh0
 simp only [qfI] at h
 exact Ev.bind (qed (a:=a.Bm) (by omega)) (Ev.bind (qed (a:=a.Bj) (by omega)) (Ev.bind (qed (a:=a.Bh) (by omega)) (.done)))
theorem qrK {a:(List qx)} (h:qfW a≤1048576):Ev (fun n=>qhr n a) a:=by
 have hl:a.length≤1048576:=by simp only [qfW] at h;omega
 unfold qhr
 exact Ev.bindN (qic (by omega)) (Ev.bind (b:=(a,(a.length:Int))) (qi1 (cp:=qh0) (fun x hx=>qvT (by have:=qew (wt:=fun x:qx=>qfI x) hx;simp only [qfW] at h;omega))
  (fun acc n=>by simp only [qfu,ql (jb _),cond_false])
  (fun acc n j x y hx hy=>by
   have hj:=(List.getElem?_eq_some_iff.1 hx).1
   simp only [qfu,qk hj,cond_true,qaz hx,qaz hy,ja,wS j])) .done)
theorem qyG {a:qP} (h:qlj a≤1048576):Ev (fun n=>qkk n a) a:=by
 unfold qkk
 simp only [qlj] at h
 exact Ev.bind (qrK (a:=a.Bp) (by omega)) (Ev.bind (qrK (a:=a.Bc) (by omega)) (.done))
theorem qxI {a:(List qP)} (h:qkq a≤1048576):Ev (fun n=>qlh n a) a:=by
 have hl:a.length≤1048576:=by simp only [qkq] at h;omega
 unfold qlh
 exact Ev.bindN (qic (by omega)) (Ev.bind (b:=(a,(a.length:Int))) (qi1 (cp:=qkk) (fun x hx=>qyG (by have:=qew (wt:=fun x:qP=>qlj x) hx;simp only [qkq] at h;omega))
  (fun acc n=>by simp only [qgv,ql (jb _),cond_false])
  (fun acc n j x y hx hy=>by
   have hj:=(List.getElem?_eq_some_iff.1 hx).1
   simp only [qgv,qk hj,cond_true,qaz hx,qaz hy,ja,wS j])) .done)
theorem qyN {a:qaq} (_:qmT a≤1048576):Ev (fun n=>qkh n a) a:=by
 unfold qkh
 exact .done
theorem qxC {a:(List qaq)} (h:qkj a≤1048576):Ev (fun n=>qkW n a) a:=by
 have hl:a.length≤1048576:=by simp only [qkj] at h;omega
 unfold qkW
 exact Ev.bindN (qic (by omega)) (Ev.bind (b:=(a,(a.length:Int))) (qi1 (cp:=qkh) (fun x hx=>qyN (by have:=qew (wt:=fun x:qaq=>qmT x) hx;simp only [qkj] at h;omega))
  (fun acc n=>by simp only [qgE,ql (jb _),cond_false])
  (fun acc n j x y hx hy=>by
   have hj:=(List.getElem?_eq_some_iff.1 hx).1
   simp only [qgE,qk hj,cond_true,qaz hx,qaz hy,ja,wS j])) .done)
theorem qxt {a:qB} (h:qhd a≤1048576):Ev (fun n=>qjt n a) a:=by
 unfold qjt
 simp only [qhd] at h
 exact Ev.bind (qxC (a:=a.Be) (by omega)) (Ev.bind (qxI (a:=a.Av) (by omega)) (Ev.bind (qed (a:=a.Br) (by omega)) (.done)))
theorem qwV {a:(List qB)} (h:qix a≤1048576):Ev (fun n=>qj7 n a) a:=by
 have hl:a.length≤1048576:=by simp only [qix] at h;omega
 unfold qj7
 exact Ev.bindN (qic (by omega)) (Ev.bind (b:=(a,(a.length:Int))) (qi1 (cp:=qjt) (fun x hx=>qxt (by have:=qew (wt:=fun x:qB=>qhd x) hx;simp only [qix] at h;omega))
  (fun acc n=>by simp only [qfU,ql (jb _),cond_false])
  (fun acc n j x y hx hy=>by
   have hj:=(List.getElem?_eq_some_iff.1 hx).1
   simp only [qfU,qk hj,cond_true,qaz hx,qaz hy,ja,wS j])) .done)
theorem quc {a:qq} (h:qgU a≤1048576):Ev (fun n=>qiw n a) a:=by
 unfold qiw
 simp only [qgU] at h
 exact Ev.bind (qwV (a:=a.Au) (by omega)) (.done)
theorem qs9 {a:qp} (h:qcM a≤1048576):Ev (fun n=>qf3 n a) a:=by
 unfold qf3
 simp only [qcM] at h
 exact Ev.bind (qed (a:=a.Ap) (by omega)) (.done)
theorem qsj {a:(List qp)} (h:qdm a≤1048576):Ev (fun n=>qgL n a) a:=by
 have hl:a.length≤1048576:=by simp only [qdm] at h;omega
 unfold qgL
 exact Ev.bindN (qic (by omega)) (Ev.bind (b:=(a,(a.length:Int))) (qi1 (cp:=qf3) (fun x hx=>qs9 (by have:=qew (wt:=fun x:qp=>qcM x) hx;simp only [qdm] at h;omega))
  (fun acc n=>by simp only [qdQ,ql (jb _),cond_false])
  (fun acc n j x y hx hy=>by
   have hj:=(List.getElem?_eq_some_iff.1 hx).1
   simp only [qdQ,qk hj,cond_true,qaz hx,qaz hy,ja,wS j])) .done)
theorem qtO {a:(List ByteArray)} (h:qgQ a≤1048576):Ev (fun n=>qhY n a) a:=by
 have hl:a.length≤1048576:=by simp only [qgQ] at h;omega
 unfold qhY
 exact Ev.bindN (qic (by omega)) (Ev.bind (b:=(a,(a.length:Int))) (qi1 (cp:=fun _ x=>some x) (fun _ _=>.done)
  (fun acc n=>by simp only [qeX,ql (jb _),cond_false])
  (fun acc n j x y hx hy=>by
   have hj:=(List.getElem?_eq_some_iff.1 hx).1
   simp only [qeX,qk hj,cond_true,qaz hx,qaz hy,ja,wS j])) .done)
theorem qx6 {a:qan} (_:qkn a≤1048576):Ev (fun n=>qjp n a) a:=by
 unfold qjp
 exact .done
theorem qwd {a:(List qan)} (h:qit a≤1048576):Ev (fun n=>qjV n a) a:=by
 have hl:a.length≤1048576:=by simp only [qit] at h;omega
 unfold qjV
 exact Ev.bindN (qic (by omega)) (Ev.bind (b:=(a,(a.length:Int))) (qi1 (cp:=qjp) (fun x hx=>qx6 (by have:=qew (wt:=fun x:qan=>qkn x) hx;simp only [qit] at h;omega))
  (fun acc n=>by simp only [qfR,ql (jb _),cond_false])
  (fun acc n j x y hx hy=>by
   have hj:=(List.getElem?_eq_some_iff.1 hx).1
   simp only [qfR,qk hj,cond_true,qaz hx,qaz hy,ja,wS j])) .done)
theorem qvF {a:qe} (h:qgu a≤1048576):Ev (fun n=>qjb n a) a:=by
 unfold qjb
 simp only [qgu] at h
 exact Ev.bind (qsj (a:=a.Aa) (by omega)) (Ev.bind (qtO (a:=a.Ap) (by omega)) (Ev.bind (qwd (a:=a.Aj) (by omega)) (.done)))
theorem qxD {a:qQ} (h:qhe a≤1048576):Ev (fun n=>qjx n a) a:=by
 unfold qjx
 simp only [qhe] at h
 exact Ev.bind (qed (a:=a.Am) (by omega)) (Ev.bind (qed (a:=a.Bw) (by omega)) (Ev.bind (qed (a:=a.Bt) (by omega)) (Ev.bind (qed (a:=a.Bl) (by omega)) (.done))))
theorem qv2 {a:(List qQ)} (h:qiA a≤1048576):Ev (fun n=>qjW n a) a:=by
 have hl:a.length≤1048576:=by simp only [qiA] at h;omega
 unfold qjW
 exact Ev.bindN (qic (by omega)) (Ev.bind (b:=(a,(a.length:Int))) (qi1 (cp:=qjx) (fun x hx=>qxD (by have:=qew (wt:=fun x:qQ=>qhe x) hx;simp only [qiA] at h;omega))
  (fun acc n=>by simp only [qf0,ql (jb _),cond_false])
  (fun acc n j x y hx hy=>by
   have hj:=(List.getElem?_eq_some_iff.1 hx).1
   simp only [qf0,qk hj,cond_true,qaz hx,qaz hy,ja,wS j])) .done)
theorem qwr {a:qf} (h:qik a≤1048576):Ev (fun n=>qjZ n a) a:=by
 unfold qjZ
 simp only [qik] at h
 exact Ev.bind (quc (a:=a.Ay) (by omega)) (Ev.bind (qvF (a:=a.Ab) (by omega)) (Ev.bind (qv2 (a:=a.Ac) (by omega)) (.done)))
end Go.Fw


namespace Go.Fw
open Go
set_option maxRecDepth 100000
theorem qcH {n:Nat} {x lo hi:Int}:qar n x lo hi=some (inI x lo hi):=by
 simp only [qar,qne,qok];rfl
theorem qdc {n:Nat} {x lo hi:Int}:qaH n x lo hi=some (inI x lo hi):=by
 simp only [qaH,qne,qok];rfl
def bt (s:ByteArray) (j:Nat):Nat:=(s.data.toList.getD j 0).toNat
theorem qwE {s:ByteArray} {j:Nat} (h:j<s.size):atS s (j:Int)=some (bt s j:Int):=by
 have h':j<s.data.size:=h
 have hl:j<s.data.toList.length:=by simpa using h'
 unfold atS
 rw [if_pos (by omega),jj]
 have:s[j]?=some (s.data.toList.getD j 0):=by
  rw [getElem?_pos s j h,jz,jf hl]
  rfl
 rw [this]
 rfl
def letB (b:Nat):Bool:=decide (97≤b)&&decide (b≤122)
def digB (b:Nat):Bool:=decide (48≤b)&&decide (b≤57)
def chB (s:ByteArray) (j:Nat):Bool:=letB (bt s j) || digB (bt s j)&&decide (0<j)
def nameB (s:ByteArray):Bool:=(decide (1≤s.size)&&decide (s.size≤8))&&allN (chB s) s.size
theorem ql9 {s:ByteArray} (h:okS s):Ev (fun n=>qfA n s) (nameB s):=by
 unfold okS at h
 have hL:Ev (fun n=>qdG s n 0) (bif allN (chB s) s.size then .nxt (s.size:Int) else .ret false):=by
  refine qek ?_ (fun j hj X hX=>?_)
  ·exact Ev.succ (by simp only [qdG,ql (jb _),cond_false];exact .done)
  ·refine Ev.succ ?_
   simp only [qdG,qk hj,cond_true,qwE hj,ja,qne,qok,wS j]
   have e1:(decide ((bt s j:Int) ≥ 97)&&decide ((bt s j:Int)≤122))=letB (bt s j):=by unfold letB;rw [jh];simp;omega
   have e2:(decide ((bt s j:Int) ≥ 48)&&decide ((bt s j:Int)≤57))=digB (bt s j):=by unfold digB;rw [jh];simp;omega
   have e3:decide ((j:Int) > 0)=decide (0<j):=by rw [jh];simp
   rw [e1,e2,e3]
   unfold chB
   cases letB (bt s j)<;>cases digB (bt s j)<;>cases decide (0<j)<;>first|exact hX|exact .done
 unfold qfA
 refine Ev.cast (r:=bif allN (chB s) s.size then (decide (1≤s.size)&&decide (s.size≤8)) else false) (Ev.bindB hL (fun _=>?_) (fun _=>.done)) ?_
 ·simp only [qne,qok]
  exact Ev.now (by congr 1;rw [jh];simp;omega)
 ·unfold nameB
  cases allN (chB s) s.size<;>simp
def cutset:List UInt8:=[97,98,99,100,101,102,103,104,105,106,107,108,109,110,111,112,113,114,115,116,117,118,119,120,121,122,48,49,50,51,52,53,54,55,56,57]
theorem qqC (b:UInt8):cutset.contains b=(letB b.toNat || digB b.toNat):=by
 have h0:(List.range 256).all (fun m=>cutset.contains (UInt8.ofNat m)==(letB (UInt8.ofNat m).toNat || digB (UInt8.ofNat m).toNat))=true:=by kernel_rfl
 have h:=List.all_eq_true.1 h0 b.toNat (List.mem_range.2 b.toNat_lt)
 rw [beq_iff_eq] at h
 simpa using h
def letters:List UInt8:=[97,98,99,100,101,102,103,104,105,106,107,108,109,110,111,112,113,114,115,116,117,118,119,120,121,122]
theorem quu (m:Nat) (hm:m<256):decide ((Lib.indexByte letters m.toUInt8) ≥ 0)=letB m:=by
 have h0:(List.range 256).all (fun m=>decide ((Lib.indexByte letters m.toUInt8) ≥ 0)==letB m)=true:=by kernel_rfl
 have h:=List.all_eq_true.1 h0 m (List.mem_range.2 hm)
 rwa [beq_iff_eq] at h
theorem qrn {α:Type} {p:α→Bool} {l:List α}:l.dropWhile p=[]↔∀ x,x ∈ l→p x=true:=by
 induction l with
 | nil=>simp
 | cons y l ih =>
  rw [List.dropWhile_cons]
  by_cases h:p y=true
  ·rw [if_pos h,ih];simp [h]
  ·rw [if_neg h];simp [h]
theorem qrl {α:Type} {p:α→Bool} {l:List α} (h:∀ x,x ∈ l.dropWhile p→p x=true):∀ x,x ∈ l→p x=true:=by
 induction l with
 | nil=>simp
 | cons y l ih =>
  rw [List.dropWhile_cons] at h
  by_cases hy:p y=true
  ·rw [if_pos hy] at h
   intro x hx
   rcases List.mem_cons.1 hx with rfl|hx
   ·exact hy
   ·exact ih h x hx
  ·rw [if_neg hy] at h
   exact h
theorem qwH {l cs:List UInt8}:Lib.trimS l cs=[]↔∀ x,x ∈ l→cs.contains x=true:=by
 unfold Lib.trimS Lib.trimRightS Lib.trimLeftS
 rw [qrn]
 constructor
 ·intro h x hx
  exact qrl (p:=(cs.contains ·)) (l:=l.reverse) (fun y hy=>h y (List.mem_reverse.2 hy)) x (List.mem_reverse.2 hx)
 ·intro h x hx
  exact h x (List.mem_reverse.1 ((List.dropWhile_suffix _).subset (List.mem_reverse.1 hx)))
theorem qhq {a b:ByteArray}:(a.toList==b.toList)=decide (a=b):=by
 rw [jh,beq_iff_eq,decide_eq_true_iff]
 constructor
 ·intro h
  exact ByteArray.ext (by have:=congrArg List.toArray h;simpa [ByteArray.toList_eq] using this)
 ·rintro rfl;rfl
end Go.Fw


namespace Go.Fw
open Go
set_option maxRecDepth 100000
theorem qyc {s:ByteArray} {j:Nat} (h:j<s.data.toList.length):bt s j=(s.data.toList[j]).toNat:=by
 unfold bt;rw [jz,jf h];rfl
theorem qy3 {s:ByteArray} {j:Nat}:bt s j<256:=UInt8.toNat_lt _
theorem qo3 {n:Nat} {s:ByteArray} (h:okS s):qhQ n s=some (nameB s):=by
 unfold okS at h
 have hl:s.data.toList.length=s.size:=by simp
 simp only [qhQ,qdc,ja]
 cases hI:inI (s.size:Int) 1 8 with
 | false =>
  have hs:(decide (1≤s.size)&&decide (s.size≤8))=false:=by rw [qvl] at hI;rw [Bool.and_eq_false_iff,decide_eq_false_iff_not,decide_eq_false_iff_not];omega
  simp [nameB,hs]
 | true =>
  have hs:1≤s.size∧s.size≤8:=by rw [qa9] at hI;omega
  have hT:qis n s (⟨#[97,98,99,100,101,102,103,104,105,106,107,108,109,110,111,112,113,114,115,116,117,118,119,120,121,122,48,49,50,51,52,53,54,55,56,57]⟩:ByteArray)=some ⟨(Lib.trimS s.data.toList cutset).toArray⟩:=by
   unfold qis
   rw [if_pos ⟨by omega,by decide,by decide⟩]
   rfl
  rw [hT]
  simp only [cond_true,ja]
  have hE:(((⟨(Lib.trimS s.data.toList cutset).toArray⟩:ByteArray).toList==(⟨#[]⟩:ByteArray).toList))=allN (fun j=>letB (bt s j) || digB (bt s j)) s.size:=by
   rw [qhq,jh,decide_eq_true_iff,qah]
   have:((⟨(Lib.trimS s.data.toList cutset).toArray⟩:ByteArray)=⟨#[]⟩)↔Lib.trimS s.data.toList cutset=[]:=by
    constructor
    ·intro he
     have:=congrArg (fun x:ByteArray=>x.data.toList) he
     simpa using this
    ·intro he;rw [he]
   rw [this,qwH]
   constructor
   ·intro hx j hj
    have hj':j<s.data.toList.length:=by omega
    have:=hx _ (jo hj')
    rw [qqC,←qyc hj'] at this
    exact this
   ·intro hx x hm
    obtain ⟨j,hj,rfl⟩:=jO hm
    have:=hx j (by omega)
    rw [qqC,←qyc hj]
    exact this
  rw [hE]
  have h0:atS s 0=some (bt s 0:Int):=qwE (j:=0) (by omega)
  have hI2:decide (Lib.indexByte letters (bt s 0:Int).toNat.toUInt8 ≥ 0)=letB (bt s 0):=by
   rw [jj];exact quu _ qy3
  have hF:∀ b:Bool,(bif b then (atS s 0).bind fun y1=>(qgi n (⟨#[97,98,99,100,101,102,103,104,105,106,107,108,109,110,111,112,113,114,115,116,117,118,119,120,121,122]⟩:ByteArray) (⟨y1⟩:IntK .u8)).bind fun r3=>some (decide (r3 ≥ 0)) else some false)=some (b&&letB (bt s 0)):=by
   intro b
   cases b with
   | false=>rfl
   | true =>
    rw [h0]
    simp only [cond_true,ja,qgi,jw]
    exact congrArg some hI2
  rw [hF]
  congr 1
  have hs':(decide (1≤s.size)&&decide (s.size≤8))=true:=by simp [hs]
  unfold nameB
  rw [hs',jw,jh,jc,qah,qah]
  simp only [chB,Bool.or_eq_true,jc,decide_eq_true_eq]
  constructor
  ·rintro ⟨h1,h2⟩ j hj
   rcases Nat.eq_zero_or_pos j with rfl|hp
   ·exact .inl h2
   ·exact (h1 j hj).imp id (fun h=>⟨h,hp⟩)
  ·intro h1
   refine ⟨fun j hj=>(h1 j hj).imp id (fun h=>h.1),?_⟩
   rcases h1 0 (by omega) with h2|h2
   ·exact h2
   ·omega
def strAt (xs:List ByteArray) (j:Nat):ByteArray:=xs.getD j ByteArray.empty
theorem qoA {xs:List ByteArray} {j:Nat} (h:j<xs.length):strAt xs j=xs[j]:=by simp [strAt,h]
theorem qqa {xs:List ByteArray} {j:Nat} (h:j<xs.length):idx xs (j:Int)=some (strAt xs j):=by rw [qh1 h,qoA h]
def neB (xs:List ByteArray) (j i:Nat):Bool:=!decide (strAt xs i=strAt xs j)
def namesB (xs:List ByteArray):Bool:=allN (fun j=>nameB (strAt xs j)&&allN (neB xs j) j) xs.length
theorem qm7 {xs:List ByteArray} (h:okL okS xs):Ev (fun n=>qgb n xs) (namesB xs):=by
 have hl:=h.len
 have hL2:∀ j,j<xs.length→Ev (fun n=>qec xs (j:Int) n 0) (bif allN (neB xs j) j then .nxt (j:Int) else .ret false):=by
  intro j hj
  refine qek ?_ (fun i hi X hX=>Ev.succ ?_)
  ·exact Ev.succ (by simp only [qec,ql (jb _),cond_false];exact .done)
  ·simp only [qec,qk hi,cond_true,qqa (show i<xs.length by omega),qqa hj,ja,qhq,wS i]
   unfold neB
   cases decide (strAt xs i=strAt xs j)
   ·exact hX
   ·exact .done
 have hL1:Ev (fun n=>qd3 xs n 0) (bif namesB xs then .nxt (xs.length:Int) else .ret false):=by
  refine qek ?_ (fun j hj X hX=>Ev.succ ?_)
  ·exact Ev.succ (by simp only [qd3,ql (jb _),cond_false];exact .done)
  ·simp only [qd3,qk hj,cond_true,qqa hj,ja,wS j]
   refine Ev.bind (ql9 (by rw [qoA hj];exact h.at hj)) ?_
   cases nameB (strAt xs j)
   ·exact .done
   ·refine Ev.ff rfl (Ev.bind (hL2 j hj) ?_)
    cases allN (neB xs j) j
    ·exact .done
    ·exact hX
 unfold qgb
 refine Ev.bind hL1 ?_
 cases namesB xs<;>exact .done
theorem qtF {xs:List ByteArray} {v:ByteArray} (hl:xs.length≤1048576):Ev (fun n=>qfb n xs v) (ixL (fun x=>decide (v=x)) xs) :=
 qfm (fin:=(xs.length:Int)) (Lf:=qbT xs v) (pf:=fun _ x=>some (decide (v=x))) (fun _ _=>.done)
  (fun n=>by simp only [qbT,ql (jb _),cond_false])
  (fun n j x hx=>by
   have hj:=(List.getElem?_eq_some_iff.1 hx).1
   simp only [qbT,qk hj,cond_true,qaz hx,ja,qhq,wS j])
  (fun n=>by unfold qfb;congr 1;funext o;cases o<;>rfl)
theorem qq6 {xs:List ByteArray} {v:ByteArray} (hl:xs.length≤1048576):Ev (fun n=>qdW n xs v) (xs.any fun x=>decide (v=x)):=by
 unfold qdW
 exact Ev.bind (qtF hl) (Ev.now (by rw [qm8]))
theorem qjf {xs:List ByteArray} (h:okL okS xs):Ev (fun n=>qd0 n xs) (namesB xs):=by
 have hl:=h.len
 have hL1:Ev (fun n=>qd8 xs n 0) (bif namesB xs then .nxt (xs.length:Int) else .ret false):=by
  refine qek ?_ (fun j hj X hX=>Ev.succ ?_)
  ·exact Ev.succ (by simp only [qd8,ql (jb _),cond_false];exact .done)
  ·have hs:subS xs 0 (j:Int)=some (xs.take j):=by
    unfold subS
    rw [if_pos ⟨by omega,by omega,by omega⟩]
    simp
   simp only [qd8,qk hj,cond_true,qqa hj,ja,hs,qo3 (show okS (strAt xs j) by rw [qoA hj];exact h.at hj),wS j]
   cases nameB (strAt xs j)
   ·exact .done
   ·refine Ev.ff rfl (Ev.bind (qq6 (by simp;omega)) ?_)
    have:((xs.take j).any fun x=>decide (strAt xs j=x)) = !allN (neB xs j) j:=by
     rw [qtm (d:=ByteArray.empty)]
     congr 1
     rw [jN,Nat.min_eq_left (by omega)]
     refine qhJ (fun i hi=>?_)
     unfold neB strAt
     congr 1
     have:(xs.take j).getD i ByteArray.empty=xs.getD i ByteArray.empty:=by simp [jz,hi]
     rw [this]
     exact decide_eq_decide.2 eq_comm
    rw [this]
    cases allN (neB xs j) j
    ·exact .done
    ·exact hX
 unfold qd0
 refine Ev.bind hL1 ?_
 cases namesB xs<;>exact .done
end Go.Fw


namespace Go.Fw
open Go
set_option maxRecDepth 100000
theorem qq9 {n:Nat} {x lo hi:Int}:qgT n x lo hi=some (!inI x lo hi):=by simp only [qgT,qdc,ja]
theorem qdR {xs:List Int} {lo hi:Int} (hl:xs.length≤1048576):Ev (fun n=>qbN n xs lo hi) (xs.all fun x=>inI x lo hi):=by
 have h1:Ev (fun n=>qaT n xs lo hi) (ixL (fun x=>!inI x lo hi) xs) :=
  qfm (fin:=(xs.length:Int)) (Lf:=qae xs lo hi) (pf:=fun _ x=>some (!inI x lo hi)) (fun _ _=>.done)
   (fun n=>by simp only [qae,ql (jb _),cond_false])
   (fun n j x hx=>by
    have hj:=(List.getElem?_eq_some_iff.1 hx).1
    simp only [qae,qk hj,cond_true,qaz hx,ja,qq9,wS j])
   (fun n=>by unfold qaT;congr 1;funext o;cases o<;>rfl)
 unfold qbN qbu
 refine Ev.bind (Ev.bind h1 (Ev.now rfl)) (Ev.now ?_)
 rw [qm8,qot]
def stepB (xs:List Int) (j:Nat):Bool:=decide (j=0) || decide (at0 xs (j-1)<at0 xs j)
def incB (xs:List Int):Bool:=allN (stepB xs) xs.length
theorem qms {xs:List Int} (hl:xs.length≤1048576):Ev (fun n=>qeU n xs) (incB xs):=by
 have hL:Ev (fun n=>qbr xs n 1) (bif incB xs then .nxt (max 1 xs.length:Int) else .ret false):=by
  by_cases h0:xs.length=0
  ·have hb:incB xs=true:=by unfold incB;rw [h0];rfl
   rw [hb]
   refine Ev.succ ?_
   have:decide ((1:Int)<(xs.length:Int))=false:=by rw [h0];decide
   simp only [qbr,this,cond_false]
   exact Ev.now (by rw [h0];rfl)
  ·have:=quK (Lf:=qbr xs) (len:=xs.length) (i0:=1) (f:=stepB xs) (bad:=false) (fin:=.nxt (max 1 xs.length:Int)) (by omega)
    (Ev.succ (by
     simp only [qbr,ql (jb _),cond_false]
     exact Ev.now (by congr 2;omega)))
    (fun j h1 hj X hX=>Ev.succ (by
     simp only [qbr,qk hj,cond_true,wS j,show (j:Int)-1=((j-1:Nat):Int) by omega,qaw (show -9223372036854775808≤((j-1:Nat):Int) by omega) (by omega),qab (show j-1<xs.length by omega),qab hj,ja]
     unfold stepB
     by_cases hc:at0 xs (j-1)<at0 xs j
     ·have e1:decide (at0 xs (j-1) ≥ at0 xs j)=false:=by simp;omega
      rw [e1];simp only [hc,decide_true,Bool.or_true,cond_true,cond_false];exact hX
     ·have e1:decide (at0 xs (j-1) ≥ at0 xs j)=true:=by simp;omega
      have e2:decide (j=0)=false:=by simp;omega
      rw [e1,e2];simp only [hc,decide_false,Bool.or_self,cond_true,cond_false];exact .done))
   have e:allN (fun j=>stepB xs (1+j)) (xs.length-1)=incB xs:=by
    unfold incB
    rw [jh,qah,qah]
    constructor
    ·intro h j hj
     cases j with
     | zero=>rfl
     | succ j=>have:=h j (by omega);rwa [Nat.add_comm] at this
    ·intro h j hj
     exact h (1+j) (by omega)
   rw [e] at this
   exact this
 unfold qeU
 refine Ev.bind hL ?_
 cases incB xs<;>exact .done
def lenB {α:Type} (xs:List α) (lo hi:Nat):Bool:=decide (lo≤xs.length)&&decide (xs.length≤hi)
theorem qsG {α:Type} {xs:List α} {lo hi:Nat}:inI (xs.length:Int) (lo:Int) (hi:Int)=lenB xs lo hi:=by
 unfold inI lenB;rw [jh];simp
def axisB (xs:List Int):Bool:=lenB xs 1 4&&((xs.all fun x=>inI x 0 100000)&&incB xs)
theorem qr0 {xs:List Int} (hl:xs.length≤1048576):Ev (fun n=>qjk n xs) (axisB xs):=by
 simp only [qjk,qbn,ja,qdc,show inI (xs.length:Int) 1 4=lenB xs 1 4 from qsG (lo:=1) (hi:=4)]
 unfold axisB
 cases lenB xs 1 4
 ·exact .done
 ·refine Ev.tt rfl (Ev.bind (qdR hl) ?_)
  cases (xs.all fun x=>inI x 0 100000)
  ·exact .done
  ·exact Ev.tt rfl (Ev.bind (qms hl) .done)
theorem qqs {xs:List Int} (hl:xs.length≤1048576):Ev (fun n=>qia n xs) (axisB xs):=by
 have hL:Ev (fun n=>qdL xs n 0) (bif allN (fun j=>inI (at0 xs j) 0 100000&&stepB xs j) xs.length then .nxt (xs.length:Int) else .ret false):=by
  refine qek ?_ (fun j hj X hX=>Ev.succ ?_)
  ·exact Ev.succ (by simp only [qdL,ql (jb _),cond_false];exact .done)
  ·simp only [qdL,qk hj,cond_true,qab hj,ja,qcH,wS j]
   cases inI (at0 xs j) 0 100000
   ·exact .done
   ·simp only [jW,cond_false,jw]
    unfold stepB
    by_cases h0:j=0
    ·subst h0
     exact Ev.ff (by decide) hX
    ·simp only [show (j:Int)-1=((j-1:Nat):Int) by omega,qaw (show -9223372036854775808≤((j-1:Nat):Int) by omega) (by omega),qab (show j-1<xs.length by omega),ja]
     have e2:decide (j=0)=false:=by simp;omega
     have e3:decide ((j:Int) > 0)=true:=by simp;omega
     rw [e2,e3]
     simp only [cond_true,Bool.false_or]
     by_cases hc:at0 xs (j-1)<at0 xs j
     ·have e1:decide (at0 xs (j-1) ≥ at0 xs j)=false:=by simp;omega
      rw [e1];simp only [hc,decide_true,cond_true,cond_false];exact hX
     ·have e1:decide (at0 xs (j-1) ≥ at0 xs j)=true:=by simp;omega
      rw [e1];simp only [hc,decide_false,cond_true,cond_false];exact .done
 have e:axisB xs=(allN (fun j=>inI (at0 xs j) 0 100000&&stepB xs j) xs.length&&lenB xs 1 4):=by
  unfold axisB incB
  rw [qlJ,qgK (d:=0),Bool.and_comm]
  rfl
 rw [e]
 unfold qia
 refine Ev.bind hL ?_
 cases allN (fun j=>inI (at0 xs j) 0 100000&&stepB xs j) xs.length
 ·exact .done
 ·simp only [cond_true,qne,qok,jw]
  exact Ev.now (by congr 1;unfold lenB;rw [jh];simp;omega)
def tableB (t:qx):Bool:=axisB t.Bm&&(axisB t.Bj&&(decide (t.Bh.length=t.Bm.length*t.Bj.length)&&(t.Bh.all fun x=>inI x (-1000000) 1000000)))
theorem quC {a b:Nat} (ha:a≤1048576) (hb:b≤1048576):W64 ((a:Int)*(b:Int))=((a*b:Nat):Int):=by
 have h:a*b≤1048576*1048576:=Nat.mul_le_mul ha hb
 have e:(a:Int)*(b:Int)=((a*b:Nat):Int):=by simp
 rw [e]
 exact qaw (by omega) (by omega)
theorem qt2 {t:qx} (h:qh3 t):Ev (fun n=>qj2 n t) (tableB t):=by
 unfold qj2 tableB
 refine Ev.bind (qr0 h.Bm.len) ?_
 cases axisB t.Bm
 ·exact .done
 ·refine Ev.tt rfl (Ev.bind (qr0 h.Bj.len) ?_)
  cases axisB t.Bj
  ·exact .done
  ·rw [quC h.Bm.len h.Bj.len]
   have e:(((t.Bh.length:Nat):Int)==((t.Bm.length*t.Bj.length:Nat):Int))=decide (t.Bh.length=t.Bm.length*t.Bj.length):=by rw [jh];simp;omega
   rw [e]
   cases decide (t.Bh.length=t.Bm.length*t.Bj.length)
   ·exact .done
   ·exact Ev.tt rfl (Ev.tt rfl (Ev.bind (qdR h.Bh.len) .done))
theorem qtG {t:qx} (h:qh3 t):Ev (fun n=>qjQ n t) (tableB t):=by
 have hl:=h.Bh.len
 have hL:Ev (fun n=>qeC t n 0) (bif (t.Bh.all fun x=>inI x (-1000000) 1000000) then .nxt (t.Bh.length:Int) else .ret false) :=
  qn5 (fun n=>by simp only [qeC,ql (jb _),cond_false]) (fun j hj X hX=>by
   simp only [qeC,qk hj,cond_true,qh1 hj,ja,qcH,wS j]
   cases inI t.Bh[j] (-1000000) 1000000
   ·exact .done
   ·exact hX)
 unfold qjQ tableB
 refine Ev.bind (b:=!(axisB t.Bm&&(axisB t.Bj&&decide (t.Bh.length=t.Bm.length*t.Bj.length)))) ?_ ?_
 ·refine Ev.bind (qqs h.Bm.len) ?_
  cases axisB t.Bm
  ·exact .done
  ·refine Ev.ff rfl (Ev.bind (qqs h.Bj.len) ?_)
   cases axisB t.Bj
   ·exact .done
   ·refine Ev.ff rfl (Ev.now ?_)
    rw [quC h.Bm.len h.Bj.len]
    congr 1
    rw [jh];simp;omega
 ·cases axisB t.Bm
  ·exact .done
  ·cases axisB t.Bj
   ·exact .done
   ·cases decide (t.Bh.length=t.Bm.length*t.Bj.length)
    ·exact .done
    ·refine Ev.ff rfl (Ev.bind hL ?_)
     cases (t.Bh.all fun x=>inI x (-1000000) 1000000)<;>exact .done
end Go.Fw


namespace Go.Fw
open Go
set_option maxRecDepth 100000
instance:Inhabited qaq:=⟨⟨ByteArray.empty,0,0,false⟩⟩
instance:Inhabited qx:=⟨⟨[],[],[]⟩⟩
instance:Inhabited qP:=⟨⟨0,0,0,0,[],[]⟩⟩
instance:Inhabited qB:=⟨⟨ByteArray.empty,0,[],[],[],0,0⟩⟩
instance:Inhabited qp:=⟨⟨ByteArray.empty,0,[]⟩⟩
instance:Inhabited qan:=⟨⟨ByteArray.empty,0,0⟩⟩
instance:Inhabited qQ:=⟨⟨[],[],[],[]⟩⟩
theorem lastE {j m:Nat} (h:j<m) (hm:m≤1048576):((j:Int)==W64 ((m:Int)-1))=decide (j+1=m):=by
 rcases qxj h with h|h
 ·exact h
 ·omega
theorem qkc {α:Type} [Inhabited α] {xs:List α} {g:α→ByteArray} {j:Nat} (h:j<xs.length):strAt (xs.map g) j=g (gt xs j):=by
 rw [qoA (by simpa using h),qe8 h];simp
theorem qnj {α:Type} {xs:List α} {g:α→ByteArray} {ok:α→Prop} (h:okL ok xs) (hg:∀ x,ok x→okS (g x)):okL okS (xs.map g) :=
 ⟨by rw [jv];exact h.1,fun y hy=>by
  obtain ⟨x,hx,rfl⟩:=List.mem_map.1 hy
  exact hg x (h.2 x hx)⟩
theorem qlz {α β:Type} {xs:List α} {g:α→β} {j:Nat} (h:j<xs.length) (hl:xs.length≤1048576) {y:β}:appS ((xs.take j).map g) [y]=some ((xs.take j).map g++[y]) :=
 qc2 (by simp;omega)
def pinB (ps:List qaq) (j:Nat):Bool :=
 bif decide (j+1=ps.length) then ((gt ps j).Bv==2)&&(((gt ps j).Bt==0)&&!(gt ps j).Bq) else ((gt ps j).Bv==1)&&inI (gt ps j).Bt 0 500
def pinsB (ps:List qaq):Bool:=allN (pinB ps) ps.length&&(lenB ps 2 5&&namesB (ps.map qaq.Bb))
def clkN (ps:List qaq) (j:Nat):Nat:=cntP (fun i=>(gt ps i).Bq) j
theorem qux {ps:List qaq} (h:okL qmY ps):Ev (fun n=>qjP n ps) (pinsB ps):=by
 have hl:=h.len
 have hL:Ev (fun n=>qc0 ps n ([]:List ByteArray) 0) (bif allN (pinB ps) ps.length then .nxt (ps.map qaq.Bb,(ps.length:Int)) else .ret false):=by
  refine loopN (Lf:=qc0 ps) (S:=fun j=>(ps.take j).map qaq.Bb) (pinB ps) (fun n=>?_) (fun j hj hp X hX=>?_)
  ·simp only [qc0,ql (jb _),cond_false,jB]
  ·simp only [qc0,qk hj,cond_true,qA hj,ja,qlz hj hl,qfK (g:=qaq.Bb) hj,lastE hj hl,bne,qc4,qdc,wS j]
   generalize hc:pinB ps j=c at hX ⊢
   unfold pinB at hc
   cases hd:decide (j+1=ps.length)
   ·rw [hd] at hc
    simp only [cond_false] at hc ⊢
    subst hc
    exact Ev.okP (fun h1=>Ev.okP1 (fun h2=>hX (by rw [h1,h2];rfl)))
   ·rw [hd] at hc
    simp only [cond_true] at hc ⊢
    subst hc
    refine Ev.okP (fun h1=>Ev.okP (fun h2=>Ev.chkP1 (fun h3=>hX (by rw [h1,h2,h3];rfl))))
 unfold qjP pinsB
 refine Ev.bind hL ?_
 cases allN (pinB ps) ps.length
 ·exact .done
 ·simp only [cond_true,qcl,qdc,ja,show inI (ps.length:Int) 2 5=lenB ps 2 5 from qsG (lo:=2) (hi:=5),jw]
  exact Ev.andP (fun _=>Ev.last (qjf (qnj h (fun x hx=>hx.Bb))))
def pinS (ps:List qaq) (j:Nat):Bool:=allN (neB (ps.map qaq.Bb) j) j&&((nameB (gt ps j).Bb&&inI (gt ps j).Bt 0 500)&&(bif decide (j+1=ps.length) then ((gt ps j).Bv==2)&&(((gt ps j).Bt==0)&&!(gt ps j).Bq) else ((gt ps j).Bv==1)))
theorem qxw {ps:List qaq}:(lenB ps 2 5&&allN (pinS ps) ps.length)=pinsB ps:=by
 have e:namesB (ps.map qaq.Bb)=allN (fun j=>nameB (gt ps j).Bb&&allN (neB (ps.map qaq.Bb) j) j) ps.length:=by
  unfold namesB
  rw [jv]
  exact qhJ (fun j hj=>by rw [qkc hj])
 unfold pinsB
 rw [e,←Bool.and_assoc,Bool.and_comm (allN (pinB ps) ps.length),Bool.and_assoc,←qlJ]
 congr 1
 refine qhJ (fun j hj=>?_)
 unfold pinS pinB
 cases hd:decide (j+1=ps.length)
 ·simp only [cond_false]
  cases allN (neB (ps.map qaq.Bb) j) j<;>cases nameB (gt ps j).Bb<;>cases inI (gt ps j).Bt 0 500<;>cases ((gt ps j).Bv==1)<;>rfl
 ·simp only [cond_true]
  cases hcap:((gt ps j).Bt==0)
  ·simp
  ·have:inI (gt ps j).Bt 0 500=true:=by rw [beq_iff_eq] at hcap;rw [hcap];rfl
   rw [this]
   cases allN (neB (ps.map qaq.Bb) j) j<;>cases nameB (gt ps j).Bb<;>cases ((gt ps j).Bv==2)<;>cases (gt ps j).Bq<;>rfl
theorem qt0 {c:qB} (h:okL qmY c.Be):Ev (fun n=>qj5 n c) (bif pinsB c.Be then (((clkN c.Be c.Be.length:Nat):Int),true) else (0,false)):=by
 have hl:=h.len
 have hL2:∀ j,j<c.Be.length→Ev (fun n=>qex c (j:Int) (gt c.Be j) n 0) (bif allN (neB (c.Be.map qaq.Bb) j) j then .nxt (j:Int) else .ret (0,false)):=by
  intro j hj
  refine qek ?_ (fun i hi X hX=>Ev.succ ?_)
  ·exact Ev.succ (by simp only [qex,ql (jb _),cond_false];exact .done)
  ·simp only [qex,qk hi,cond_true,qA (show i<c.Be.length by omega),ja,qhq,wS i]
   unfold neB
   rw [qkc (g:=qaq.Bb) (show i<c.Be.length by omega),qkc (g:=qaq.Bb) hj]
   exact Ev.chkP1 (fun _=>hX)
 have hL1:Ev (fun n=>qcT c n 0 0) (bif allN (pinS c.Be) c.Be.length then .nxt (((clkN c.Be c.Be.length:Nat):Int),(c.Be.length:Int)) else .ret (0,false)):=by
  refine loopN (Lf:=qcT c) (S:=fun j=>((clkN c.Be j:Nat):Int)) (pinS c.Be) (fun n=>?_) (fun j hj hp X hX=>?_)
  ·simp only [qcT,ql (jb _),cond_false]
  ·have hn:clkN c.Be j≤j:=qfF
   have ejl:((j:Int)==W64 ((c.Be.length:Int)-1))=decide (j+1=c.Be.length):=lastE hj hl
   have elt:decide ((j:Int)<W64 ((c.Be.length:Int)-1)) = !decide (j+1=c.Be.length):=by
    rw [qaw (by omega) (by omega),jh];simp;omega
   simp only [qcT,qk hj,cond_true,qA hj,ja,wS j,qig (show clkN c.Be j<9223372036854775807 by omega),ejl,elt,qcH]
   unfold pinS
   refine Ev.bind (hL2 j hj) ?_
   cases ha:allN (neB (c.Be.map qaq.Bb) j) j
   ·exact .done
   ·simp only [cond_true,jw]
    refine Ev.chkT ?_ (fun h1=>?_)
    ·exact Ev.or (ql9 (qmZ h hj).Bb) (fun _=>.done)
    ·refine Ev.chkT1 ?_ (fun h2=>?_)
     ·cases decide (j+1=c.Be.length)
      ·exact .done
      ·simp only [cond_true,jW,cond_false,bne,qc4]
       cases ((gt c.Be j).Bv==2)<;>cases ((gt c.Be j).Bt==0)<;>cases (gt c.Be j).Bq<;>exact .done
     ·have hX:=hX (by unfold pinS;rw [ha,h1,h2];rfl)
      have hck:clkN c.Be (j+1)=clkN c.Be j+(bif (gt c.Be j).Bq then 1 else 0):=rfl
      rw [hck] at hX
      cases hc:(gt c.Be j).Bq
      ·rw [hc] at hX;exact Ev.ff rfl hX
      ·rw [hc] at hX;exact Ev.tt rfl hX
 rw [←qxw]
 unfold qj5
 refine Ev.guard ?_ (fun h1=>?_)
 ·unfold lenB
  have e1:decide ((c.Be.length:Int)<2) = !decide (2≤c.Be.length):=by rw [jh];simp;omega
  have e2:decide ((c.Be.length:Int) > 5) = !decide (c.Be.length≤5):=by rw [jh];simp;omega
  rw [e1,e2]
  cases decide (2≤c.Be.length)<;>cases decide (c.Be.length≤5)<;>exact .done
 ·refine Ev.bind hL1 ?_
  cases allN (pinS c.Be) c.Be.length<;>exact .done
def mnL (xs:List Int):Int:=(xs.drop 1).foldl (fun m y=>if y<m then y else m) (at0 xs 0)
def mxL (xs:List Int):Int:=(xs.drop 1).foldl (fun m y=>if y > m then y else m) (at0 xs 0)
theorem qqj {t:qx} (h:tableB t=true):1≤t.Bh.length:=by
 unfold tableB axisB lenB at h
 simp only [jc,decide_eq_true_eq] at h
 obtain ⟨⟨⟨h1,_⟩,_⟩,⟨⟨h2,_⟩,_⟩,h3,_⟩:=h
 rw [h3]
 exact Nat.mul_pos h1 h2
theorem qxv {xs:List Int} (h1:1≤xs.length) (hl:xs.length≤1048576):Ev (fun n=>qgM n xs) (mnL xs):=by
 have hL:=(qoY (Lf:=fun n t j=>qcQ xs n t j) (xs:=xs) (step:=fun (m y:Int)=>if y<m then y else m) (fin:=fun t=>(t,(xs.length:Int))) 1 (at0 xs 0) (fun _ _=>True) h1 trivial (fun _ _ _ _=>trivial)
  (fun n t=>by simp only [qcQ,ql (jb _),cond_false])
  (fun j t hj _ X hX=>by simpa only [qcQ,qk hj,cond_true,qh1 hj,ja,wS j] using hX)).1
 unfold qgM
 rw [show decide ((xs.length:Int)<1)=false by simp;omega,show idx xs (0:Int)=some (at0 xs 0) from qab (j:=0) (by omega)]
 simp only [cond_false,ja]
 exact Ev.bind hL .done
theorem qul {t:qx} (h:qh3 t):Ev (fun n=>qg9 n t) (bif tableB t then (⟨mnL t.Bh,mxL t.Bh⟩,0) else (⟨0,0⟩,1)):=by
 unfold qg9
 refine Ev.chk1 (qtG h) (fun hb=>?_)
 have h1:=qqj hb
 have hl:=h.Bh.len
 have hL:=(qoY (Lf:=fun n (t':Int × Int) j=>qcR t n t'.1 t'.2 j) (xs:=t.Bh) (step:=fun (m:Int × Int) y=>(if y<m.1 then y else m.1,if y > m.2 then y else m.2)) (fin:=fun t'=>(t'.1,t'.2,(t.Bh.length:Int))) 1 (at0 t.Bh 0,at0 t.Bh 0) (fun _ _=>True) h1 trivial (fun _ _ _ _=>trivial)
  (fun n t=>by simp only [qcR,ql (jb _),cond_false])
  (fun j t hj _ X hX=>by simpa only [qcR,qk hj,cond_true,qh1 hj,ja,wS j] using hX)).1
 have hf:∀ (ys:List Int) (a b:Int),ys.foldl (fun (m:Int × Int) y=>(if y<m.1 then y else m.1,if y > m.2 then y else m.2)) (a,b)=(ys.foldl (fun m y=>if y<m then y else m) a,ys.foldl (fun m y=>if y > m then y else m) b):=by
  intro ys
  induction ys with
  | nil=>intro a b;rfl
  | cons y ys ih=>intro a b;simp only [List.foldl_cons,ih]
 rw [hf] at hL
 rw [show idx t.Bh (0:Int)=some (at0 t.Bh 0) from qab (j:=0) (by omega)]
 simp only [ja]
 exact Ev.bind hL .done
def tabB (pos:Bool) (t:qx):Bool:=tableB t&&(!pos || decide (0≤mnL t.Bh))
def tablesB (ts:List qx) (pos:Bool):Bool:=decide (ts.length=2)&&ts.all (tabB pos)
theorem ql8 {ts:List qx} {pos:Bool} (h:okL qh3 ts):Ev (fun n=>qfk n ts pos) (tablesB ts pos):=by
 have hl:=h.len
 have h1:Ev (fun n=>qaC n ts pos) (ixL (fun x=>!tabB pos x) ts) :=
  qfm (fin:=(ts.length:Int)) (Lf:=qL ts pos) (pf:=fun n x=>qgR n x pos) (fun x hx=>by
    unfold qgR tabB
    refine Ev.or (qt2 (h.2 x hx)) (fun hb=>?_)
    cases pos
    ·exact .done
    ·refine Ev.tt rfl (Ev.bind (qxv (qqj hb) (h.2 x hx).Bh.len) (Ev.now ?_))
     congr 1
     rw [jh];simp)
   (fun n=>by simp only [qL,ql (jb _),cond_false])
   (fun n j x hx=>by
    have hj:=(List.getElem?_eq_some_iff.1 hx).1
    simp only [qL,qk hj,cond_true,qaz hx,ja,wS j])
   (fun n=>by unfold qaC;congr 1;funext o;cases o<;>rfl)
 unfold qfk qaY tablesB
 rw [show ((ts.length:Int)==2)=decide (ts.length=2) by rw [jh];simp;omega]
 refine Ev.andP (fun _=>Ev.bind (Ev.bind h1 (Ev.now rfl)) (Ev.now ?_))
 rw [qm8,qot]
theorem qio {ts:List qx} {pos:Bool} (h:okL qh3 ts):Ev (fun n=>qdp n ts pos) (tablesB ts pos):=by
 unfold qdp tablesB
 rw [show ((ts.length:Int) != 2) = !decide (ts.length=2) by rw [jh];simp;omega]
 simp only [qc4]
 refine Ev.andP (fun h2=>?_)
 have h2:ts.length=2:=by simpa using h2
 have hL:Ev (fun n=>qcz ts pos n 0) (bif allN (fun j=>tabB pos (gt ts j)) ts.length then .nxt (2:Int) else .ret false):=by
  refine qek (len:=ts.length) ?_ (fun j hj X hX=>Ev.succ ?_)
  ·rw [h2];exact Ev.succ (by simp only [qcz];exact .done)
  ·simp only [qcz,show decide ((j:Int)<2)=true by simp;omega,cond_true,qA hj,ja,wS j]
   refine Ev.bind (qul (qmZ h hj)) ?_
   unfold tabB
   cases tableB (gt ts j)
   ·exact .done
   ·simp only [cond_true,jw]
    refine Ev.ff rfl ?_
    cases pos
    ·exact hX
    ·refine Ev.tt rfl ?_
     rw [show decide (mnL (gt ts j).Bh<0) = !decide (0≤mnL (gt ts j).Bh) by rw [jh];simp]
     simp only [qc4]
     exact Ev.okP1 (fun _=>hX)
 rw [qid]
 refine Ev.bind hL ?_
 cases allN (fun j=>tabB pos (gt ts j)) ts.length<;>exact .done
end Go.Fw


namespace Go.Fw
open Go
set_option maxRecDepth 100000
theorem qdK {α:Type} [Inhabited α] {xs:List α} {x:Int} (h0:0≤x) (h1:x<xs.length):idx xs x=some (gt xs x.toNat):=by
  have:=qA (xs:=xs) (j:=x.toNat) (by omega)
  rwa [←qej h0] at this
theorem qrF {q:Nat→Bool} {m n:Nat} (h:m≤n):cntP q m≤cntP q n:=by
  induction n with
  | zero =>
    obtain rfl:m=0:=by omega
    exact jb _
  | succ n ih =>
    rcases Nat.lt_or_eq_of_le h with h|rfl
    · exact Nat.le_trans (ih (by omega)) (Nat.le_add_right _ _)
    · exact jb _
theorem qnv {m k:Nat}:decide ((m:Int)≤(k:Int))=decide (m≤k):=by rw [jh];simp
theorem qtd {q:Nat→Bool} {n i j:Nat} (hi:i<j) (hj:j<n) (h1:q i=true) (h2:q j=true):2≤cntP q n:=by
  have e1:cntP q (i+1)=cntP q i+1:=by rw [cntP,h1];rfl
  have e2:cntP q (j+1)=cntP q j+1:=by rw [cntP,h2];rfl
  have m1:=qrF (q:=q) (show i+1≤j by omega)
  have m2:=qrF (q:=q) (show j+1≤n by omega)
  omega
theorem qtn {q:Nat→Bool} {n i j:Nat} (hn:cntP q n≤1) (hi:i<n) (hj:j<n) (h1:q i=true) (h2:q j=true):i=j:=by
  rcases Nat.lt_trichotomy i j with h|h|h
  · have:=qtd h hj h1 h2;omega
  · exact h
  · have:=qtd h hi h2 h1;omega
def clkIx (ps:List qaq):Int:=ixL (fun p=>p.Bq) ps
def clkAt (ps:List qaq) (x:Int):Bool:=(gt ps x.toNat).Bq
theorem qwl {c:qB} (hl:c.Be.length≤1048576):Ev (fun n=>qhw n c) (clkIx c.Be):=by
  unfold qhw
  refine Ev.bind (b:=clkIx c.Be) ?_ .done
  exact qfm (fin:=(c.Be.length:Int)) (Lf:=qT c.Be) (pf:=fun n x=>qiC n x) (fun _ _=>.done)
    (fun n=>by simp only [qT,ql (jb _),cond_false])
    (fun n j x hx=>by
      have hj:=(List.getElem?_eq_some_iff.1 hx).1
      simp only [qT,qk hj,cond_true,qaz hx,ja,wS j])
    (fun n=>by unfold qbq;congr 1;funext o;cases o<;>rfl)
def arcI (ps:List qaq) (a:qP):Bool :=
  bif (a.Bf==4) || (a.Bf==5) then
    (a.Bn==0)&&(((a.Bc.length:Int)==0)&&(tablesB a.Bp false&&((a.Bk==clkIx ps)&&(decide (a.Bk ≥ 0)&&(inI a.To 0 (ps.length-2)&&!(a.To==a.Bk))))))
  else
    (tablesB a.Bp true&&(tablesB a.Bc true&&((a.To==(ps.length:Int)-1)&&inI a.Bk 0 (ps.length-2)))) &&
      (bif a.Bf==1 then !clkAt ps a.Bk&&inI a.Bn 1 3 else (bif (a.Bf==2) || (a.Bf==3) then clkAt ps a.Bk&&(a.Bn==0) else false))
def arcS (ps:List qaq) (a:qP):Bool :=
  (inI a.Bk 0 (ps.length-2)&&inI a.To 0 (ps.length-1)) &&
    (bif a.Bf==1 then !clkAt ps a.Bk&&((a.To==(ps.length:Int)-1)&&(inI a.Bn 1 3&&(tablesB a.Bp true&&tablesB a.Bc true)))
     else (bif (a.Bf==2) || (a.Bf==3) then clkAt ps a.Bk&&((a.To==(ps.length:Int)-1)&&((a.Bn==0)&&(tablesB a.Bp true&&tablesB a.Bc true)))
     else (bif (a.Bf==4) || (a.Bf==5) then clkAt ps a.Bk&&(decide (a.To<(ps.length:Int)-1)&&(!clkAt ps a.To&&((a.Bn==0)&&(tablesB a.Bp false&&((a.Bc.length:Int)==0))))) else false)))
theorem qpx {c d:Bool}:(bif c then some c else some d)=some (c || d):=by cases c<;>rfl
theorem qtx {c d:Bool}:(bif c then some true else some d)=some (c || d):=by cases c<;>rfl
theorem qt8 {n:Nat} {k:Int}:qjY n k=some ((k==4) || (k==5)):=by simp only [qjY,qtx]
theorem qwB {c:qB} {a:qP} (h:okL qmY c.Be) (ha:qn2 a) (hm:2≤c.Be.length):Ev (fun n=>qhy n c a) (arcI c.Be a):=by
  have hl:=h.len
  have e1:W64 ((c.Be.length:Int)-1)=(c.Be.length:Int)-1:=qeT (by omega)
  have e2:W64 ((c.Be.length:Int)-1-1)=(c.Be.length:Int)-2:=by rw [qaw (by omega) (by omega)];omega
  simp only [qhy,qt8,ja,qgj,qd4,qcl,e1,e2,qdc,qpx,bne]
  unfold arcI
  refine Ev.iff (fun _=>Ev.last ?_) (fun _=>Ev.guardB ?_ (fun hb=>?_))
  · exact Ev.andP fun _=>Ev.andP fun _=>Ev.and (ql8 ha.Bp) fun _=>Ev.bind (qwl hl) (Ev.andP fun _=>Ev.andP fun _=>Ev.andP fun _=>.done)
  · refine Ev.or (ql8 ha.Bp) fun _=>Ev.or (ql8 ha.Bc) fun _=>?_
    simp only [qc4]
    exact Ev.orBP fun _=>.done
  · have hf:0≤a.Bk∧a.Bk≤(c.Be.length:Int)-2:=by
      simp only [jc,qa9] at hb
      exact hb.2.2.2
    simp only [qdK hf.1 (show a.Bk<(c.Be.length:Int) by omega),ja]
    exact Ev.iff (fun _=>Ev.andP fun _=>.done) (fun _=>Ev.iff (fun _=>Ev.andP fun _=>.done) (fun _=>.done))
theorem quT {c:qB} {a:qP} (h:okL qmY c.Be) (ha:qn2 a) (hm:2≤c.Be.length):Ev (fun n=>qkX n c a) (arcS c.Be a):=by
  have hl:=h.len
  have e1:W64 ((c.Be.length:Int)-1)=(c.Be.length:Int)-1:=qeT (by omega)
  have e2:W64 ((c.Be.length:Int)-1-1)=(c.Be.length:Int)-2:=by rw [qaw (by omega) (by omega)];omega
  simp only [qkX,ja,e1,e2,qcH,qpx]
  unfold arcS
  refine Ev.guardB ?_ (fun hb=>?_)
  · simp only [qc4]
    exact Ev.orBP fun _=>.done
  · have hf:(0≤a.Bk∧a.Bk≤(c.Be.length:Int)-2)∧(0≤a.To∧a.To≤(c.Be.length:Int)-1):=by
      simp only [jc,qa9] at hb
      exact hb
    simp only [qdK hf.1.1 (show a.Bk<(c.Be.length:Int) by omega),qdK hf.2.1 (show a.To<(c.Be.length:Int) by omega),ja]
    refine Ev.iff (fun _=>?_) (fun _=>Ev.iff (fun _=>?_) (fun _=>Ev.iff (fun _=>?_) (fun _=>.done)))
    · exact Ev.andP fun _=>Ev.andP fun _=>Ev.andP fun _=>Ev.and (qio ha.Bp) fun _=>Ev.last (qio ha.Bc)
    · exact Ev.andP fun _=>Ev.andP fun _=>Ev.andP fun _=>Ev.and (qio ha.Bp) fun _=>Ev.last (qio ha.Bc)
    · exact Ev.andP fun _=>Ev.andP fun _=>Ev.andP fun _=>Ev.andP fun _=>Ev.and (qio ha.Bp) fun _=>.done
theorem qpa {ps:List qaq} (h1:clkN ps ps.length≤1) {x:Int} (hx:0≤x):clkIx ps=x↔x<ps.length∧clkAt ps x=true:=by
  unfold clkIx ixL
  cases hf:ps.findIdx? (fun p=>p.Bq) with
  | some j =>
    obtain ⟨hj,hp,_⟩:=List.findIdx?_eq_some_iff_getElem.1 hf
    have hpj:(gt ps j).Bq=true:=by rw [qe8 hj];exact hp
    constructor
    · intro e
      have e:(j:Int)=x:=e
      subst e
      exact ⟨by omega,by unfold clkAt;rw [jj];exact hpj⟩
    · rintro ⟨hl,hc⟩
      have:=qtn h1 hj (show x.toNat<ps.length by omega) hpj hc
      show (j:Int)=x
      omega
  | none =>
    have hn:=List.findIdx?_eq_none_iff.1 hf
    constructor
    · intro e
      have e:(-1:Int)=x:=e
      omega
    · rintro ⟨hl,hc⟩
      have hxl:x.toNat<ps.length:=by omega
      unfold clkAt at hc
      rw [qe8 hxl] at hc
      have:=hn _ (jo hxl)
      rw [hc] at this
      exact absurd this (by decide)
theorem qgD {ps:List qaq} (h:pinsB ps=true):(2≤ps.length∧ps.length≤5)∧clkAt ps ((ps.length:Int)-1)=false:=by
  unfold pinsB lenB at h
  simp only [jc,decide_eq_true_eq] at h
  refine ⟨h.2.1,?_⟩
  have h1:=qah.1 h.1 (ps.length-1) (by omega)
  unfold pinB at h1
  rw [show decide (ps.length-1+1=ps.length)=true by simp;omega] at h1
  simp only [cond_true,jc,jE] at h1
  unfold clkAt
  rw [show ((ps.length:Int)-1).toNat=ps.length-1 by omega]
  exact h1.2.2
theorem qw8 {ps:List qaq} {a:qP} (h:pinsB ps=true) (h1:clkN ps ps.length≤1):arcI ps a=arcS ps a:=by
  obtain ⟨⟨hm,hm5⟩,hlast⟩:=qgD h
  rw [jh]
  unfold arcI arcS
  cases h45:((a.Bf==4) || (a.Bf==5)) with
  | true =>
    have k1:(a.Bf==1)=false:=by simp at h45 ⊢;omega
    have k23:((a.Bf==2) || (a.Bf==3))=false:=by simp at h45 ⊢;omega
    rw [k1,k23]
    simp only [cond_true,cond_false,jc,qa9,decide_eq_true_eq,beq_iff_eq,jE,beq_eq_false_iff_ne,ne_eq]
    constructor
    · rintro ⟨hs,hsl,hd,hf,hf0,ht,hne⟩
      obtain ⟨hl,hc⟩:=(qpa h1 hf0).1 hf.symm
      have hfl:a.Bk ≠ (ps.length:Int)-1:=by intro e;rw [e,hlast] at hc;cases hc
      refine ⟨⟨⟨hf0,by omega⟩,⟨ht.1,by omega⟩⟩,hc,by omega,?_,hs,hd,hsl⟩
      cases hct:clkAt ps a.To with
      | false=>rfl
      | true =>
        have:=(qpa h1 ht.1).2 ⟨by omega,hct⟩
        omega
    · rintro ⟨⟨hf,ht⟩,hc,hlt,hct,hs,hd,hsl⟩
      have:=(qpa h1 hf.1).2 ⟨by omega,hc⟩
      refine ⟨hs,hsl,hd,this.symm,hf.1,⟨ht.1,by omega⟩,?_⟩
      intro e
      rw [e,hc] at hct
      cases hct
  | false =>
    simp only [cond_false,jc,qa9,beq_iff_eq]
    cases (a.Bf==1)
    · cases ((a.Bf==2) || (a.Bf==3))
      · simp
      · simp only [cond_true,cond_false,jc,beq_iff_eq]
        constructor
        · rintro ⟨⟨h1,h2,h3,h4⟩,h5,h6⟩
          exact ⟨⟨h4,by omega⟩,h5,h3,h6,h1,h2⟩
        · rintro ⟨⟨h4,h7⟩,h5,h3,h6,h1,h2⟩
          exact ⟨⟨h1,h2,h3,h4⟩,h5,h6⟩
    · simp only [cond_true,jc,qa9,jE,beq_iff_eq]
      constructor
      · rintro ⟨⟨h1,h2,h3,h4⟩,h5,h6⟩
        exact ⟨⟨h4,by omega⟩,h5,h3,h6,h1,h2⟩
      · rintro ⟨⟨h4,h7⟩,h5,h3,h6,h1,h2⟩
        exact ⟨⟨h1,h2,h3,h4⟩,h5,h6⟩
theorem qrH {ps:List qaq} {a:qP} (h:arcS ps a=true):1≤a.Bf∧a.Bf≤5:=by
  unfold arcS at h
  rw [jc] at h
  have h:=h.2
  cases h1:(a.Bf==1)
  · cases h2:((a.Bf==2) || (a.Bf==3))
    · cases h4:((a.Bf==4) || (a.Bf==5))
      · rw [h1,h2,h4] at h;cases h
      · simp at h4;omega
    · simp at h2;omega
  · simp at h1;omega
def sameArc (x y:qP):Bool:=(x.Bf==y.Bf)&&((x.Bk==y.Bk)&&(x.To==y.To))
def newArc (ar:List qP) (j:Nat):Bool:=allN (fun i=>!sameArc (gt ar i) (gt ar j)) j
theorem qt4 {c:qB} (h:okL qmY c.Be) (ha:okL qn2 c.Av) (hm:2≤c.Be.length):Ev (fun n=>qgm n c) (allN (fun j=>arcI c.Be (gt c.Av j)&&newArc c.Av j) c.Av.length&&decide (c.Av.length≤8)):=by
  have hl:=ha.len
  have h1:∀ (ar:List qP) (y:qP),ar.length≤1048576→Ev (fun n=>qau n ar y) (ar.any fun x=>sameArc x y):=by
    intro ar y hl
    unfold qau
    refine Ev.bind (b:=ixL (fun x=>sameArc x y) ar) (qfm (fin:=(ar.length:Int)) (Lf:=qK ar y) (pf:=fun n x=>qfa n x y) (fun x _=>?_)
      (fun n=>by simp only [qK,ql (jb _),cond_false])
      (fun n j x hx=>by
        have hj:=(List.getElem?_eq_some_iff.1 hx).1
        simp only [qK,qk hj,cond_true,qaz hx,ja,wS j])
      (fun n=>by unfold qa6;congr 1;funext o;cases o<;>rfl)) (Ev.now (by rw [qm8]))
    unfold qfa sameArc
    exact Ev.andP fun _=>Ev.andP fun _=>.done
  have hL:Ev (fun n=>qcj c n 0) (bif allN (fun j=>arcI c.Be (gt c.Av j)&&newArc c.Av j) c.Av.length then .nxt (c.Av.length:Int) else .ret false):=by
    refine qek ?_ (fun j hj X hX=>Ev.succ ?_)
    · exact Ev.succ (by simp only [qcj,ql (jb _),cond_false];exact .done)
    · simp only [qcj,qk hj,cond_true,qA hj,ja,qvH (Nat.le_of_lt hj),wS j]
      refine Ev.chk (qwB h (qmZ ha hj) hm) fun _=>Ev.chkT1 ?_ (fun _=>hX)
      refine (h1 _ _ (by simp;omega)).cast ?_
      rw [qwK (Nat.le_of_lt hj)];rfl
  unfold qgm
  refine Ev.bind hL ?_
  cases allN (fun j=>arcI c.Be (gt c.Av j)&&newArc c.Av j) c.Av.length
  · exact .done
  · refine Ev.now ?_
    show some (decide ((c.Av.length:Int)≤((8:Nat):Int)))=some (true&&decide (c.Av.length≤8))
    rw [qnv,jw]
def hasB (ar:List qP) (k:Int):Bool:=ar.any fun a=>a.Bf==k
theorem qpc {c:qB} {k:Int} (hl:c.Av.length≤1048576):Ev (fun n=>qdk n c k) (hasB c.Av k):=by
  unfold qdk qbg
  exact Ev.last (Ev.bind (b:=ixL (fun x=>x.Bf==k) c.Av) (qfm (fin:=(c.Av.length:Int)) (Lf:=qZ c.Av k) (pf:=fun n x=>qjG n x k) (fun x _=>.done)
      (fun n=>by simp only [qZ,ql (jb _),cond_false])
      (fun n j x hx=>by
        have hj:=(List.getElem?_eq_some_iff.1 hx).1
        simp only [qZ,qk hj,cond_true,qaz hx,ja,wS j])
      (fun n=>by unfold qbw;congr 1;funext o;cases o<;>rfl)) (Ev.now (by rw [qm8];rfl)))
def kindN (ar:List qP) (k:Nat) (j:Nat):Nat:=cntP (fun i=>(gt ar i).Bf==(k:Int)) j
theorem qrY {ar:List qP} {k:Nat}:decide (((kindN ar k ar.length:Nat):Int) > 0)=hasB ar k:=by
  rw [show decide (((kindN ar k ar.length:Nat):Int) > 0)=decide (0<kindN ar k ar.length) by simp]
  unfold kindN hasB
  rw [qtb,quB]
theorem quy {ar:List qP} {k:Nat}:(((kindN ar k ar.length:Nat):Int)==0) = !hasB ar k:=by
  rw [←qrY,jh];simp
theorem qsP {c:qB} (ha:okL qn2 c.Av) (hk:∀ j,j<c.Av.length→1≤(gt c.Av j).Bf∧(gt c.Av j).Bf≤5):Ev (fun n=>qiZ n c) (vecC (fun k=>kindN c.Av k c.Av.length) 6):=by
  have hl:=ha.len
  have hL:Ev (fun n=>qc6 c n (vecC (fun _=>0) 6) 0) (vecC (fun k=>kindN c.Av k c.Av.length) 6,(c.Av.length:Int)):=by
    refine loopF (Lf:=qc6 c) (S:=fun j=>vecC (fun k=>kindN c.Av k j) 6) (len:=c.Av.length) (fun n=>?_) (fun j hj X hX=>?_)
    · simp only [qc6,ql (jb _),cond_false]
    · obtain ⟨k1,k5⟩:=hk j hj
      have ek:(gt c.Av j).Bf=(((gt c.Av j).Bf.toNat:Nat):Int):=qej (by omega)
      have hc:kindN c.Av (gt c.Av j).Bf.toNat j≤j:=qfF
      simp only [qc6,qk hj,cond_true,qA hj,ja,wS j]
      rw [ek,qkL (show (gt c.Av j).Bf.toNat<6 by omega)]
      simp only [ja]
      rw [qr3 (c:=fun k=>kindN c.Av k j) (by show kindN c.Av _ j<_;omega)]
      have:vecC (fun i=>kindN c.Av i j+(bif decide ((gt c.Av j).Bf.toNat=i) then 1 else 0)) 6=vecC (fun k=>kindN c.Av k (j+1)) 6:=by
        refine qkt (fun k _=>?_)
        show _=kindN c.Av k j+(bif (gt c.Av j).Bf==(k:Int) then 1 else 0)
        congr 2
        rw [jh];simp;omega
      rw [this]
      exact hX
  unfold qiZ
  rw [show mkS 6 (0:Int)=some (vecC (fun _=>0) 6) from qnp (m:=6) (by omega)]
  simp only [ja]
  exact Ev.bind hL .done
def kindB (c:qB):Bool :=
  bif c.Bf==1 then (((clkN c.Be c.Be.length:Nat):Int)==0)&&(((c.Br.length:Int)==((2 ^ (c.Be.length-1):Nat):Int))&&(c.Br.all fun x=>inI x 0 1))
  else bif c.Bf==2 then (((clkN c.Be c.Be.length:Nat):Int)==1)&&(((c.Br.length:Int)==0)&&(!hasB c.Av 1&&!(hasB c.Av 2==hasB c.Av 3)))
  else bif c.Bf==3 then (((clkN c.Be c.Be.length:Nat):Int)==1)&&(((c.Br.length:Int)==0)&&(hasB c.Av 1&&(hasB c.Av 2&&!hasB c.Av 3)))
  else false
theorem qrP {c:qB} (h:kindB c=true):clkN c.Be c.Be.length≤1:=by
  unfold kindB at h
  cases h1:(c.Bf==1)
  · cases h2:(c.Bf==2)
    · cases h3:(c.Bf==3)
      · rw [h1,h2,h3] at h;cases h
      · rw [h1,h2,h3] at h
        simp only [cond_true,cond_false,jc,beq_iff_eq] at h
        omega
    · rw [h1,h2] at h
      simp only [cond_true,cond_false,jc,beq_iff_eq] at h
      omega
  · rw [h1] at h
    simp only [cond_true,jc,beq_iff_eq] at h
    omega
theorem qsO {m:Nat} (h1:2≤m) (h2:m≤5):shlS 1 (W64 ((m:Int)-1))=some ((2 ^ (m-1):Nat):Int)∧shlS 1 (IntKind.wrap .u64 (W64 ((m:Int)-1)))=some ((2 ^ (m-1):Nat):Int):=by
  have:m=2∨m=3∨m=4∨m=5:=by omega
  rcases this with rfl|rfl|rfl|rfl<;>exact ⟨by decide,by decide⟩
theorem qtt {c:qB} (hc:qnk c) (hm:2≤c.Be.length) (hm5:c.Be.length≤5):Ev (fun n=>qfQ n c) (kindB c):=by
  have hl:=hc.Be.len
  have hL:Ev (fun n=>qa7 c n 0 0) (((clkN c.Be c.Be.length:Nat):Int),(c.Be.length:Int)):=by
    refine loopF (Lf:=qa7 c) (S:=fun j=>((clkN c.Be j:Nat):Int)) (len:=c.Be.length) (fun n=>?_) (fun j hj X hX=>?_)
    · simp only [qa7,ql (jb _),cond_false]
    · have hn:clkN c.Be j≤j:=qfF
      simp only [qa7,qk hj,cond_true,qA hj,ja,wS j,qig (show clkN c.Be j<9223372036854775807 by omega)]
      have hck:clkN c.Be (j+1)=clkN c.Be j+(bif (gt c.Be j).Bq then 1 else 0):=rfl
      rw [hck] at hX
      cases hc:(gt c.Be j).Bq
      · rw [hc] at hX;exact Ev.ff rfl hX
      · rw [hc] at hX;exact Ev.tt rfl hX
  unfold qfQ kindB
  refine Ev.bind hL ?_
  simp only [qd4,qcl,ja,(qsO hm hm5).1]
  have hal:=hc.Av.len
  refine Ev.iff (fun _=>?_) (fun _=>Ev.iff (fun _=>?_) (fun _=>Ev.iff (fun _=>?_) (fun _=>.done)))
  · exact Ev.andP fun _=>Ev.andP fun _=>Ev.last (qdR hc.Br.len)
  · exact Ev.andP fun _=>Ev.andP fun _=>Ev.bind (qpc hal) (Ev.andP fun _=>Ev.bind (qpc hal) (Ev.bind (qpc hal) .done))
  · exact Ev.andP fun _=>Ev.andP fun _=>Ev.and (qpc hal) fun _=>Ev.and (qpc hal) fun _=>Ev.bind (qpc hal) .done
def cellB (c:qB):Bool :=
  nameB c.Bb&&(pinsB c.Be&&((allN (fun j=>arcI c.Be (gt c.Av j)&&newArc c.Av j) c.Av.length&&decide (c.Av.length≤8))&&(inI c.Ca 0 100000&&(inI c.Bu 0 100000&&kindB c))))
theorem qvi {c:qB} (hc:qnk c):Ev (fun n=>qk5 n c) (cellB c):=by
  simp only [qk5,qo3 hc.Bb,qdc,ja]
  unfold cellB
  refine Ev.andP fun _=>Ev.and (qux hc.Be) fun hp=>?_
  obtain ⟨⟨hm,hm5⟩,_⟩:=qgD hp
  exact Ev.and (qt4 hc.Be hc.Av hm) fun _=>Ev.andP fun _=>Ev.andP fun _=>Ev.last (qtt hc hm hm5)
theorem qtY {c:qB} (hc:qnk c):Ev (fun n=>qkT n c) (cellB c):=by
  have hal:=hc.Av.len
  have htl:=hc.Br.len
  have e:cellB c=((pinsB c.Be&&(nameB c.Bb&&(decide (c.Av.length≤8)&&(inI c.Ca 0 100000&&inI c.Bu 0 100000))))&&(allN (fun j=>arcS c.Be (gt c.Av j)&&newArc c.Av j) c.Av.length&&kindB c)):=by
    unfold cellB
    cases hk:kindB c
    · simp
    · cases hp:pinsB c.Be
      · simp
      · rw [qhJ (fun j _=>by rw [qw8 hp (qrP hk)])]
        cases nameB c.Bb<;>cases allN (fun j=>arcS c.Be (gt c.Av j)&&newArc c.Av j) c.Av.length<;>cases decide (c.Av.length≤8)<;>cases inI c.Ca 0 100000<;>cases inI c.Bu 0 100000<;>rfl
  rw [e]
  unfold qkT
  refine Ev.bind (qt0 hc.Be) ?_
  cases hp:pinsB c.Be
  · exact .done
  · obtain ⟨⟨hm,hm5⟩,_⟩:=qgD hp
    simp only [cond_true,jw,jW,cond_false]
    refine Ev.guardB ?_ (fun _=>?_)
    · simp only [qcH,ja,qc4]
      refine Ev.orB (ql9 hc.Bb) fun _=>?_
      rw [show decide ((c.Av.length:Int) > 8) = !decide (c.Av.length≤8) by rw [jh];simp;omega,qc4]
      exact Ev.orBP fun _=>Ev.orBP fun _=>.done
    · have hL2:∀ j,j<c.Av.length→Ev (fun n=>qdl c (j:Int) (gt c.Av j) n 0) (bif newArc c.Av j then .nxt (j:Int) else .ret false):=by
        intro j hj
        refine qek ?_ (fun i hi X hX=>Ev.succ ?_)
        · exact Ev.succ (by simp only [qdl,ql (jb _),cond_false];exact .done)
        · simp only [qdl,qk hi,cond_true,qA (show i<c.Av.length by omega),ja,wS i]
          unfold sameArc
          cases ((gt c.Av i).Bf==(gt c.Av j).Bf)
          · exact hX
          · cases ((gt c.Av i).Bk==(gt c.Av j).Bk)
            · exact hX
            · cases ((gt c.Av i).To==(gt c.Av j).To)
              · exact hX
              · exact .done
      have hL1:Ev (fun n=>qfs c n 0) (bif allN (fun j=>arcS c.Be (gt c.Av j)&&newArc c.Av j) c.Av.length then .nxt (c.Av.length:Int) else .ret false):=by
        refine qek ?_ (fun j hj X hX=>Ev.succ ?_)
        · exact Ev.succ (by simp only [qfs,ql (jb _),cond_false];exact .done)
        · simp only [qfs,qk hj,cond_true,qA hj,ja,wS j]
          refine Ev.chk (quT hc.Be (qmZ hc.Av hj) hm) fun _=>Ev.bind (hL2 j hj) ?_
          cases newArc c.Av j
          · exact .done
          · exact hX
      have hL3:Ev (fun n=>qfc c n 0) (bif (c.Br.all fun x=>inI x 0 1) then .nxt (c.Br.length:Int) else .ret false) :=
        qn5 (fun n=>by simp only [qfc,ql (jb _),cond_false]) (fun j hj X hX=>by
          simp only [qfc,qk hj,cond_true,qh1 hj,ja,qcH,wS j,qc4]
          exact Ev.okP1 fun _=>hX)
      refine Ev.bind hL1 ?_
      cases hA:allN (fun j=>arcS c.Be (gt c.Av j)&&newArc c.Av j) c.Av.length
      · exact .done
      · have hk:∀ j,j<c.Av.length→1≤(gt c.Av j).Bf∧(gt c.Av j).Bf≤5:=fun j hj=>by
          have:=qah.1 hA j hj
          rw [jc] at this
          exact qrH this.1
        simp only [cond_true,jw]
        refine Ev.bind (qsP hc.Av hk) ?_
        simp only [(qsO hm hm5).2,ja,
          show idx (vecC (fun k=>kindN c.Av k c.Av.length) 6) (1:Int)=some ((kindN c.Av 1 c.Av.length:Nat):Int) from qkL (k:=1) (by omega),
          show idx (vecC (fun k=>kindN c.Av k c.Av.length) 6) (2:Int)=some ((kindN c.Av 2 c.Av.length:Nat):Int) from qkL (k:=2) (by omega),
          show idx (vecC (fun k=>kindN c.Av k c.Av.length) 6) (3:Int)=some ((kindN c.Av 3 c.Av.length:Nat):Int) from qkL (k:=3) (by omega),qrY,quy]
        unfold kindB
        refine Ev.iff (fun _=>?_) (fun _=>Ev.iff (fun _=>?_) (fun _=>Ev.iff (fun _=>?_) (fun _=>.done)))
        · refine Ev.bind hL3 ?_
          cases (c.Br.all fun x=>inI x 0 1)
          · exact Ev.now (by simp)
          · exact (Ev.andP (fun _=>.done)).cast (by rw [Bool.and_true])
        · refine (Ev.andP fun _=>Ev.andP fun _=>Ev.andP fun _=>.done).cast ?_
          cases (((clkN c.Be c.Be.length:Nat):Int)==1)<;>cases ((c.Br.length:Int)==0)<;>cases hasB c.Av ((1:Nat):Int)<;>cases hasB c.Av ((2:Nat):Int)<;>cases hasB c.Av ((3:Nat):Int)<;>rfl
        · refine (Ev.andP fun _=>Ev.andP fun _=>Ev.andP fun _=>Ev.andP fun _=>.done).cast ?_
          cases (((clkN c.Be c.Be.length:Nat):Int)==1)<;>cases ((c.Br.length:Int)==0)<;>cases hasB c.Av ((1:Nat):Int)<;>cases hasB c.Av ((2:Nat):Int)<;>cases hasB c.Av ((3:Nat):Int)<;>rfl
def libB (l:qq):Bool:=l.Au.all cellB&&(decide (l.Au.length≤8)&&namesB (l.Au.map qB.Bb))
theorem qsC {l:qq} (h:qhL l):Ev (fun n=>qie n l) (libB l):=by
  have hl:=h.Au.len
  have hL:Ev (fun n=>qcA l n ([]:List ByteArray) 0) (bif allN (fun j=>cellB (gt l.Au j)) l.Au.length then .nxt (l.Au.map qB.Bb,(l.Au.length:Int)) else .ret false):=by
    refine loopN (Lf:=qcA l) (S:=fun j=>(l.Au.take j).map qB.Bb) (fun j=>cellB (gt l.Au j)) (fun n=>?_) (fun j hj hp X hX=>?_)
    · simp only [qcA,ql (jb _),cond_false,jB]
    · simp only [qcA,qk hj,cond_true,qA hj,ja,qlz hj hl,qfK (g:=qB.Bb) hj,wS j]
      exact Ev.chk1 (qvi (qmZ h.Au hj)) hX
  unfold qie libB
  rw [qid]
  refine Ev.bind hL ?_
  cases allN (fun j=>cellB (gt l.Au j)) l.Au.length
  · exact .done
  · simp only [cond_true,jw,show decide ((l.Au.length:Int)≤8)=decide (l.Au.length≤8) from qnv (k:=8)]
    exact Ev.andP fun _=>Ev.last (qjf (qnj h.Au (fun x hx=>hx.Bb)))
end Go.Fw


namespace Go.Fw
open Go
set_option maxRecDepth 100000
theorem qt3 {c:qB} (h:cellB c=true):nameB c.Bb=true:=by
 unfold cellB at h;rw [jc] at h;exact h.1
theorem qiT {c:qB} (h:cellB c=true):pinsB c.Be=true:=by
 unfold cellB at h;simp only [jc] at h;exact h.2.1
theorem qri {l:qq} (h:qhL l):Ev (fun n=>qiv n l) (libB l):=by
 have hl:=h.Au.len
 have hL2:∀ j,j<l.Au.length→Ev (fun n=>qdt l (j:Int) n 0) (bif allN (neB (l.Au.map qB.Bb) j) j then .nxt (j:Int) else .ret false):=by
  intro j hj
  refine qek ?_ (fun i hi X hX=>Ev.succ ?_)
  ·exact Ev.succ (by simp only [qdt,ql (jb _),cond_false];exact .done)
  ·simp only [qdt,qk hi,cond_true,qA (show i<l.Au.length by omega),qA hj,ja,qhq,wS i]
   unfold neB
   rw [qkc (g:=qB.Bb) (show i<l.Au.length by omega),qkc (g:=qB.Bb) hj]
   exact Ev.chkP1 (fun _=>hX)
 have hL1:Ev (fun n=>qdx l n 0) (bif allN (fun j=>cellB (gt l.Au j)&&allN (neB (l.Au.map qB.Bb) j) j) l.Au.length then .nxt (l.Au.length:Int) else .ret false):=by
  refine qek ?_ (fun j hj X hX=>Ev.succ ?_)
  ·exact Ev.succ (by simp only [qdx,ql (jb _),cond_false];exact .done)
  ·simp only [qdx,qk hj,cond_true,qA hj,ja,wS j]
   refine Ev.chk (qtY (qmZ h.Au hj)) fun _=>Ev.bind (hL2 j hj) ?_
   cases allN (neB (l.Au.map qB.Bb) j) j
   ·exact .done
   ·exact hX
 have e:libB l=(allN (fun j=>cellB (gt l.Au j)&&allN (neB (l.Au.map qB.Bb) j) j) l.Au.length&&decide (l.Au.length≤8)):=by
  unfold libB namesB
  rw [qid,jv,Bool.and_comm (decide (l.Au.length≤8)),←Bool.and_assoc,←qlJ]
  congr 1
  refine qhJ (fun j hj=>?_)
  rw [qkc (g:=qB.Bb) hj]
  cases hc:cellB (gt l.Au j)
  ·rfl
  ·rw [qt3 hc];rfl
 rw [e]
 unfold qiv
 refine Ev.bind hL1 ?_
 cases allN (fun j=>cellB (gt l.Au j)&&allN (neB (l.Au.map qB.Bb) j) j) l.Au.length
 ·exact .done
 ·refine Ev.now ?_
  show some (decide ((l.Au.length:Int)≤((8:Nat):Int)))=some (true&&decide (l.Au.length≤8))
  rw [qnv,jw]
theorem qlr {c c':Nat→Nat} {m:Nat} {x:Int} (h0:0≤x) (h1:x<m) (hc:c x.toNat<9223372036854775807) (he:∀ k,k<m→c' k=c k+(bif x==(k:Int) then 1 else 0)) :
  idx (vecC c m) x=some (c x.toNat:Int)∧setS (vecC c m) x (W64 ((c x.toNat:Int)+1))=vecC c' m:=by
 have ex:x=(x.toNat:Int):=qej h0
 have e1:=qkL (c:=c) (m:=m) (k:=x.toNat) (by omega)
 have e2:=qr3 (c:=c) (m:=m) (k:=x.toNat) hc
 rw [←ex] at e1 e2
 refine ⟨e1,e2.trans (qkt (fun k hk=>?_))⟩
 rw [he k hk]
 congr 2
 rw [jh];simp;omega
def netB (d:qe) (x:Int):Bool:=inI x 0 ((d.Ap.length:Int)-1)
theorem qtk {n:Nat} {d:qe} {x:Int} (hl:d.Ap.length≤1048576):qdz n d x=some (netB d x):=by
 simp only [qdz,qhO,ja,qdc,qeT (show d.Ap.length≤9223372036854775807 by omega)];rfl
theorem qrQ {n:Nat} {d:qe} {x:Int} (hl:d.Ap.length≤1048576):qar n x 0 (W64 ((d.Ap.length:Int)-1))=some (netB d x):=by
 rw [qcH,qeT (show d.Ap.length≤9223372036854775807 by omega)];rfl
def hasNamesB (d:qe):Bool:=(decide (d.Aa.length≤14)&&(decide (d.Ap.length≤30)&&decide (d.Aj.length≤8)))&&(namesB (d.Aa.map qp.Bb)&&(namesB d.Ap&&namesB (d.Aj.map qan.Bb)))
theorem qsQ {d:qe} (h:qka d):Ev (fun n=>qeL n d) (hasNamesB d):=by
 have hli:=h.Aa.len
 have hlp:=h.Aj.len
 have hL1:Ev (fun n=>qbh d n ([]:List ByteArray) 0) (d.Aa.map qp.Bb,(d.Aa.length:Int)):=by
  refine loopF (Lf:=qbh d) (S:=fun j=>(d.Aa.take j).map qp.Bb) (len:=d.Aa.length) (fun n=>?_) (fun j hj X hX=>?_)
  ·simp only [qbh,ql (jb _),cond_false,jB]
  ·simpa only [qbh,qk hj,cond_true,qA hj,ja,qlz hj hli,qfK (g:=qp.Bb) hj,wS j] using hX
 have hL2:Ev (fun n=>qbl d n ([]:List ByteArray) 0) (d.Aj.map qan.Bb,(d.Aj.length:Int)):=by
  refine loopF (Lf:=qbl d) (S:=fun j=>(d.Aj.take j).map qan.Bb) (len:=d.Aj.length) (fun n=>?_) (fun j hj X hX=>?_)
  ·simp only [qbl,ql (jb _),cond_false,jB]
  ·simpa only [qbl,qk hj,cond_true,qA hj,ja,qlz hj hlp,qfK (g:=qan.Bb) hj,wS j] using hX
 unfold qeL hasNamesB
 refine Ev.bind hL1 (Ev.bind hL2 ?_)
 simp only [jv]
 rw [show decide ((d.Aa.length:Int)≤14)=decide (d.Aa.length≤14) from qnv (k:=14),show decide ((d.Ap.length:Int)≤30)=decide (d.Ap.length≤30) from qnv (k:=30),show decide ((d.Aj.length:Int)≤8)=decide (d.Aj.length≤8) from qnv (k:=8)]
 rw [Bool.and_assoc,Bool.and_assoc]
 exact Ev.andP fun _=>Ev.andP fun _=>Ev.andP fun _=>Ev.and (qjf (qnj h.Aa (fun x hx=>hx.Bb))) fun _=>Ev.and (qjf h.Ap) fun _=>Ev.last (qjf (qnj h.Aj (fun x hx=>hx.Bb)))
def instB (l:qq) (d:qe) (x:qp):Bool:=inI x.Bs 0 ((l.Au.length:Int)-1)&&(((x.Ap.length:Int)==((gt l.Au x.Bs.toNat).Be.length:Int))&&x.Ap.all (netB d))
theorem qro {d:qe} {l:qq} {x:qp} (hn:d.Ap.length≤1048576) (hc:l.Au.length≤1048576) (hx:x.Ap.length≤1048576):Ev (fun n=>qdY n d l x) (instB l d x):=by
 simp only [qdY,qge,ja,qdc,qeT (show l.Au.length≤9223372036854775807 by omega)]
 unfold instB
 refine Ev.andP fun hI=>?_
 rw [qa9] at hI
 rw [qdK hI.1 (by omega)]
 simp only [ja]
 refine Ev.andP fun _=>Ev.bind (b:=x.Ap.any fun y=>!netB d y) ?_ (Ev.now (by rw [qot]))
 unfold qaN
 exact Ev.bind (b:=ixL (fun y=>!netB d y) x.Ap) (qfm (fin:=(x.Ap.length:Int)) (Lf:=qH x.Ap d) (pf:=fun n y=>qdi n y d) (fun y _=>⟨0,fun n _=>by simp only [qdi,qtk hn,ja]⟩)
   (fun n=>by simp only [qH,ql (jb _),cond_false])
   (fun n j y hx=>by
    have hj:=(List.getElem?_eq_some_iff.1 hx).1
    simp only [qH,qk hj,cond_true,qaz hx,ja,wS j])
   (fun n=>by unfold qaV;congr 1;funext o;cases o<;>rfl)) (Ev.now (by rw [qm8]))
def portB (d:qe) (p:qan):Bool:=inI p.Bv 1 2&&netB d p.Bx
theorem qyn {x:Int}:inI x 1 2=((x==1) || (x==2)):=by
 unfold inI;rw [jh];simp;omega
def lastN (x:qp):Int:=at0 x.Ap (x.Ap.length-1)
theorem qsY {x:qp} (h1:1≤x.Ap.length) (h2:x.Ap.length≤1048576):idx x.Ap (W64 ((x.Ap.length:Int)-1))=some (lastN x):=by
 rw [qeT (by omega),show ((x.Ap.length:Int)-1)=((x.Ap.length-1:Nat):Int) by omega,qab (by omega)];rfl
theorem qvg {d:qe} {x:qp} (h1:1≤x.Ap.length) (h:x.Ap.all (netB d)=true):0≤lastN x∧lastN x<d.Ap.length:=by
 rw [qgK (d:=0),qah] at h
 have:=h (x.Ap.length-1) (by omega)
 unfold netB at this
 rw [qa9] at this
 unfold lastN at0
 omega
theorem qq3 {l:qq} {d:qe} {x:qp} (hl:libB l=true) (h:instB l d x=true):1≤x.Ap.length∧0≤lastN x∧lastN x<d.Ap.length:=by
 unfold instB at h
 simp only [jc,qa9,beq_iff_eq] at h
 obtain ⟨h1,h2,h3⟩:=h
 unfold libB at hl
 simp only [jc] at hl
 have hc:=hl.1
 rw [qid,qah] at hc
 have:=qgD (qiT (hc x.Bs.toNat (by omega)))
 have h4:1≤x.Ap.length:=by omega
 exact ⟨h4,qvg h4 h3⟩
def drvI (d:qe) (k j:Nat):Nat:=cntP (fun i=>lastN (gt d.Aa i)==(k:Int)) j
def drvP (d:qe) (k j:Nat):Nat:=cntP (fun i=>((gt d.Aj i).Bv==1)&&((gt d.Aj i).Bx==(k:Int))) j
def drvB (d:qe):Bool:=allN (fun k=>((drvI d k d.Aa.length+drvP d k d.Aj.length:Nat):Int)==1) d.Ap.length
def designB (l:qq) (d:qe):Bool:=(libB l&&hasNamesB d)&&(d.Aa.all (instB l d)&&(d.Aj.all (portB d)&&drvB d))
theorem qo2 {d:qe} {k j:Nat}:drvI d k (j+1)=drvI d k j+(bif lastN (gt d.Aa j)==(k:Int) then 1 else 0):=rfl
theorem qnn {d:qe} {k j:Nat}:drvP d k (j+1)=drvP d k j+(bif ((gt d.Aj j).Bv==1)&&((gt d.Aj j).Bx==(k:Int)) then 1 else 0):=rfl
theorem qs4 {l:qq} {d:qe} (h:qhL l) (hd:qka d):Ev (fun n=>qi3 n l d) (designB l d):=by
 have hli:=hd.Aa.len
 have hlp:=hd.Aj.len
 have hln:=hd.Ap.len
 have hlc:=h.Au.len
 unfold qi3 designB
 refine Ev.guardB (Ev.or (qsC h) fun _=>Ev.neg (qsQ hd)) fun hb=>?_
 rw [jc] at hb
 rw [qnp (m:=d.Ap.length) (by omega)]
 simp only [ja]
 have hL1:Ev (fun n=>qc9 l d n (vecC (fun _=>0) d.Ap.length) 0) (bif allN (fun j=>instB l d (gt d.Aa j)) d.Aa.length then .nxt (vecC (fun k=>drvI d k d.Aa.length) d.Ap.length,(d.Aa.length:Int)) else .ret false):=by
  refine loopN (Lf:=qc9 l d) (S:=fun j=>vecC (fun k=>drvI d k j) d.Ap.length) (fun j=>instB l d (gt d.Aa j)) (fun n=>?_) (fun j hj hp X hX=>?_)
  ·simp only [qc9,ql (jb _),cond_false]
  ·simp only [qc9,qk hj,cond_true,qA hj,ja,wS j]
   have hxl:=(qmZ hd.Aa hj).Ap.len
   refine Ev.chk1 (qro hln hlc hxl) fun hi=>?_
   obtain ⟨h1,h2,h3⟩:=qq3 hb.1 hi
   have hc:drvI d (lastN (gt d.Aa j)).toNat j≤j:=qfF
   obtain ⟨e1,e2⟩:=qlr (c:=fun k=>drvI d k j) (c':=fun k=>drvI d k (j+1)) h2 h3 (by show drvI _ _ _<_;omega) (fun k _=>qo2)
   simp only [qsY h1 hxl,ja,e1,e2]
   exact hX hi
 have hL2:Ev (fun n=>qco d n (vecC (fun k=>drvI d k d.Aa.length) d.Ap.length) 0) (bif allN (fun j=>portB d (gt d.Aj j)) d.Aj.length then .nxt (vecC (fun k=>drvI d k d.Aa.length+drvP d k d.Aj.length) d.Ap.length,(d.Aj.length:Int)) else .ret false):=by
  refine loopN (Lf:=qco d) (S:=fun j=>vecC (fun k=>drvI d k d.Aa.length+drvP d k j) d.Ap.length) (fun j=>portB d (gt d.Aj j)) (fun n=>?_) (fun j hj hp X hX=>?_)
  ·simp only [qco,ql (jb _),cond_false]
  ·simp only [qco,qk hj,cond_true,qA hj,ja,qtk hln,bne,wS j]
   refine Ev.chkT1 ?_ fun hi=>?_
   ·unfold portB
    rw [qyn]
    cases ((gt d.Aj j).Bv==1)<;>cases ((gt d.Aj j).Bv==2)<;>exact .done
   ·have hX:=hX hi
    unfold portB netB at hi
    simp only [jc,qa9] at hi
    have hc1:drvI d (gt d.Aj j).Bx.toNat d.Aa.length≤d.Aa.length:=qfF
    have hc2:drvP d (gt d.Aj j).Bx.toNat j≤j:=qfF
    cases h1:((gt d.Aj j).Bv==1)
    ·have:vecC (fun k=>drvI d k d.Aa.length+drvP d k (j+1)) d.Ap.length=vecC (fun k=>drvI d k d.Aa.length+drvP d k j) d.Ap.length:=by
      refine qkt (fun k _=>?_)
      rw [qnn,h1];rfl
     rw [this] at hX
     exact hX
    ·obtain ⟨e1,e2⟩:=qlr (c:=fun k=>drvI d k d.Aa.length+drvP d k j) (c':=fun k=>drvI d k d.Aa.length+drvP d k (j+1)) (x:=(gt d.Aj j).Bx) (m:=d.Ap.length) hi.2.1 (by omega) (by show drvI _ _ _+drvP _ _ _<_;omega) (fun k _=>by rw [qnn,h1,jw];omega)
     simp only [cond_true,ja,e1,e2]
     exact hX
 rw [qid,qid]
 refine Ev.bind hL1 ?_
 cases allN (fun j=>instB l d (gt d.Aa j)) d.Aa.length
 ·exact .done
 ·refine Ev.bind hL2 ?_
  cases allN (fun j=>portB d (gt d.Aj j)) d.Aj.length
  ·exact .done
  ·simp only [cond_true,jw]
   unfold qbJ
   refine Ev.bind (b:=(vecC (fun k=>drvI d k d.Aa.length+drvP d k d.Aj.length) d.Ap.length).any fun x=>!(x==1)) (Ev.bind (b:=ixL (fun x=>!(x==1)) (vecC (fun k=>drvI d k d.Aa.length+drvP d k d.Aj.length) d.Ap.length)) (qfm (fin:=(((vecC (fun k=>drvI d k d.Aa.length+drvP d k d.Aj.length) d.Ap.length).length:Nat):Int)) (Lf:=qak (vecC (fun k=>drvI d k d.Aa.length+drvP d k d.Aj.length) d.Ap.length)) (pf:=fun n y=>qjL n y) (fun y _=>.done)
    (fun n=>by simp only [qak,ql (jb _),cond_false])
    (fun n j y hx=>by
     have hj:=(List.getElem?_eq_some_iff.1 hx).1
     have:j<d.Ap.length:=by rw [qmV] at hj;exact hj
     simp only [qak,qk hj,cond_true,qaz hx,ja,wS j])
    (fun n=>by unfold qb3;congr 1;funext o;cases o<;>rfl)) (Ev.now (by rw [qm8]))) (Ev.now ?_)
   rw [qot,qgK (d:=0),qmV]
   unfold drvB
   congr 1
   exact qhJ (fun k hk=>by
    have:=qsW (c:=fun k=>drvI d k d.Aa.length+drvP d k d.Aj.length) hk
    unfold at0 at this
    rw [this])
theorem qtB {l:qq} {d:qe} (h:qhL l) (hd:qka d):Ev (fun n=>qi2 n l d) (d.Aa.all (instB l d)&&d.Aj.all (portB d)):=by
 have hli:=hd.Aa.len
 have hlp:=hd.Aj.len
 have hln:=hd.Ap.len
 have hlc:=h.Au.len
 have hL2:∀ x:qp,x.Ap.length≤1048576→Ev (fun n=>qd5 d x n 0) (bif x.Ap.all (netB d) then .nxt (x.Ap.length:Int) else .ret false):=fun x hx =>
  qn5 (fun n=>by simp only [qd5,ql (jb _),cond_false]) (fun j hj X hX=>by
   simp only [qd5,qk hj,cond_true,qh1 hj,ja,qrQ hln,wS j,qc4]
   exact Ev.okP1 fun _=>hX)
 have hL1:Ev (fun n=>qef l d n 0) (bif allN (fun j=>instB l d (gt d.Aa j)) d.Aa.length then .nxt (d.Aa.length:Int) else .ret false):=by
  refine qek ?_ (fun j hj X hX=>Ev.succ ?_)
  ·exact Ev.succ (by simp only [qef,ql (jb _),cond_false];exact .done)
  ·simp only [qef,qk hj,cond_true,qA hj,ja,qcH,qeT (show l.Au.length≤9223372036854775807 by omega),wS j,bne]
   have hxl:=(qmZ hd.Aa hj).Ap.len
   unfold instB
   rw [←Bool.and_assoc]
   refine Ev.chkT ?_ fun _=>Ev.bind (hL2 _ hxl) ?_
   ·simp only [qc4]
    refine Ev.orBP fun hI=>?_
    rw [qa9] at hI
    rw [qdK hI.1 (by omega)]
    exact .done
   ·cases (gt d.Aa j).Ap.all (netB d)
    ·exact .done
    ·exact hX
 have hL3:Ev (fun n=>qd7 d n 0) (bif allN (fun j=>portB d (gt d.Aj j)) d.Aj.length then .nxt (d.Aj.length:Int) else .ret false):=by
  refine qek ?_ (fun j hj X hX=>Ev.succ ?_)
  ·exact Ev.succ (by simp only [qd7,ql (jb _),cond_false];exact .done)
  ·simp only [qd7,qk hj,cond_true,qA hj,ja,qrQ hln,wS j]
   simp only [qcH,ja,qc4]
   unfold portB
   exact Ev.okP fun _=>Ev.okP1 fun _=>hX
 unfold qi2
 rw [qid,qid]
 refine Ev.bind hL1 ?_
 cases allN (fun j=>instB l d (gt d.Aa j)) d.Aa.length
 ·exact .done
 ·refine Ev.bind hL3 ?_
  cases allN (fun j=>portB d (gt d.Aj j)) d.Aj.length<;>exact .done
theorem qsE {l:qq} {d:qe} (h:qhL l) (hd:qka d):Ev (fun n=>qi9 n l d) (designB l d):=by
 have hli:=hd.Aa.len
 have hlp:=hd.Aj.len
 have hln:=hd.Ap.len
 have hlc:=h.Au.len
 have e:designB l d=((libB l&&(decide (d.Aa.length≤14)&&(decide (d.Ap.length≤30)&&(decide (d.Aj.length≤8)&&(d.Aa.all (instB l d)&&d.Aj.all (portB d))))))&&((namesB (d.Aa.map qp.Bb)&&(namesB (d.Aj.map qan.Bb)&&namesB d.Ap))&&drvB d)):=by
  unfold designB hasNamesB
  generalize libB l=a1
  generalize decide (d.Aa.length≤14)=a2
  generalize decide (d.Ap.length≤30)=a3
  generalize decide (d.Aj.length≤8)=a4
  generalize d.Aa.all (instB l d)=a5
  generalize d.Aj.all (portB d)=a6
  generalize namesB (d.Aa.map qp.Bb)=a7
  generalize namesB (d.Aj.map qan.Bb)=a8
  generalize namesB d.Ap=a9
  generalize drvB d=a10
  rw [jh]
  simp only [jc]
  constructor
  ·rintro ⟨⟨h1,⟨h2,h3,h4⟩,h7,h9,h8⟩,h5,h6,h10⟩
   exact ⟨⟨h1,h2,h3,h4,h5,h6⟩,⟨h7,h8,h9⟩,h10⟩
  ·rintro ⟨⟨h1,h2,h3,h4,h5,h6⟩,⟨h7,h8,h9⟩,h10⟩
   exact ⟨⟨h1,⟨h2,h3,h4⟩,h7,h9,h8⟩,h5,h6,h10⟩
 rw [e]
 unfold qi9
 refine Ev.guardB ?_ fun hb=>?_
 ·refine Ev.or (qri h) fun _=>?_
  rw [show decide ((d.Aa.length:Int) > 14) = !decide (d.Aa.length≤14) by rw [jh];simp;omega,show decide ((d.Ap.length:Int) > 30) = !decide (d.Ap.length≤30) by rw [jh];simp;omega,show decide ((d.Aj.length:Int) > 8) = !decide (d.Aj.length≤8) by rw [jh];simp;omega]
  simp only [qc4]
  exact Ev.orBP fun _=>Ev.orBP fun _=>Ev.orBP fun _=>Ev.neg (qtB h hd)
 ·simp only [jc] at hb
  obtain ⟨hlib,_,_,_,hI,hP⟩:=hb
  rw [qid,qah] at hI hP
  have hL1:Ev (fun n=>qde d n ([]:List ByteArray) 0) (d.Aa.map qp.Bb,(d.Aa.length:Int)):=by
   refine loopF (Lf:=qde d) (S:=fun j=>(d.Aa.take j).map qp.Bb) (len:=d.Aa.length) (fun n=>?_) (fun j hj X hX=>?_)
   ·simp only [qde,ql (jb _),cond_false,jB]
   ·simpa only [qde,qk hj,cond_true,qA hj,ja,qlz hj hli,qfK (g:=qp.Bb) hj,wS j] using hX
  have hL2:Ev (fun n=>qdh d n ([]:List ByteArray) 0) (d.Aj.map qan.Bb,(d.Aj.length:Int)):=by
   refine loopF (Lf:=qdh d) (S:=fun j=>(d.Aj.take j).map qan.Bb) (len:=d.Aj.length) (fun n=>?_) (fun j hj X hX=>?_)
   ·simp only [qdh,ql (jb _),cond_false,jB]
   ·simpa only [qdh,qk hj,cond_true,qA hj,ja,qlz hj hlp,qfK (g:=qan.Bb) hj,wS j] using hX
  have hL3:Ev (fun n=>qda d n (vecC (fun _=>0) d.Ap.length) 0) (vecC (fun k=>drvI d k d.Aa.length) d.Ap.length,(d.Aa.length:Int)):=by
   refine loopF (Lf:=qda d) (S:=fun j=>vecC (fun k=>drvI d k j) d.Ap.length) (len:=d.Aa.length) (fun n=>?_) (fun j hj X hX=>?_)
   ·simp only [qda,ql (jb _),cond_false]
   ·have hxl:=(qmZ hd.Aa hj).Ap.len
    obtain ⟨h1,h2,h3⟩:=qq3 hlib (hI j hj)
    have hc:drvI d (lastN (gt d.Aa j)).toNat j≤j:=qfF
    obtain ⟨e1,e2⟩:=qlr (c:=fun k=>drvI d k j) (c':=fun k=>drvI d k (j+1)) h2 h3 (by show drvI _ _ _<_;omega) (fun k _=>qo2)
    simpa only [qda,qk hj,cond_true,qA hj,ja,wS j,qsY h1 hxl,e1,e2] using hX
  have hL4:Ev (fun n=>qcs d n (vecC (fun k=>drvI d k d.Aa.length) d.Ap.length) 0) (vecC (fun k=>drvI d k d.Aa.length+drvP d k d.Aj.length) d.Ap.length,(d.Aj.length:Int)):=by
   refine loopF (Lf:=qcs d) (S:=fun j=>vecC (fun k=>drvI d k d.Aa.length+drvP d k j) d.Ap.length) (len:=d.Aj.length) (fun n=>?_) (fun j hj X hX=>?_)
   ·simp only [qcs,ql (jb _),cond_false]
   ·have hi:=hP j hj
    unfold portB netB at hi
    simp only [jc,qa9] at hi
    have hc1:drvI d (gt d.Aj j).Bx.toNat d.Aa.length≤d.Aa.length:=qfF
    have hc2:drvP d (gt d.Aj j).Bx.toNat j≤j:=qfF
    simp only [qcs,qk hj,cond_true,qA hj,ja,wS j]
    cases h1:((gt d.Aj j).Bv==1)
    ·have:vecC (fun k=>drvI d k d.Aa.length+drvP d k (j+1)) d.Ap.length=vecC (fun k=>drvI d k d.Aa.length+drvP d k j) d.Ap.length:=by
      refine qkt (fun k _=>?_)
      rw [qnn,h1];rfl
     rw [this] at hX
     exact hX
    ·obtain ⟨e1,e2⟩:=qlr (c:=fun k=>drvI d k d.Aa.length+drvP d k j) (c':=fun k=>drvI d k d.Aa.length+drvP d k (j+1)) (x:=(gt d.Aj j).Bx) (m:=d.Ap.length) hi.2.1 (by omega) (by show drvI _ _ _+drvP _ _ _<_;omega) (fun k _=>by rw [qnn,h1,jw];omega)
     simp only [cond_true,ja,e1,e2]
     exact hX
  have hL5:Ev (fun n=>qeb (vecC (fun _=>0) d.Ap.length) (vecC (fun k=>drvI d k d.Aa.length+drvP d k d.Aj.length) d.Ap.length) n 0) (bif drvB d then .nxt (d.Ap.length:Int) else .ret false):=by
   refine qek ?_ (fun j hj X hX=>Ev.succ ?_)
   ·exact Ev.succ (by simp only [qeb,qmV,ql (jb _),cond_false];exact .done)
   ·simp only [qeb,qmV,qk hj,cond_true,qkL hj,ja,bne,qc4,wS j]
    exact Ev.okP1 fun _=>hX
  refine Ev.bind hL1 (Ev.bind hL2 ?_)
  refine Ev.guardB (Ev.or (qm7 (qnj hd.Aa (fun x hx=>hx.Bb))) fun _=>Ev.or (qm7 (qnj hd.Aj (fun x hx=>hx.Bb))) fun _=>Ev.neg (qm7 hd.Ap)) fun _=>?_
  rw [qnp (m:=d.Ap.length) (by omega)]
  simp only [ja]
  refine Ev.bind hL3 (Ev.bind hL4 (Ev.bind hL5 ?_))
  cases drvB d<;>exact .done
end Go.Fw


namespace Go.Fw
open Go
set_option maxRecDepth 100000
theorem qxe {m k:Nat}:decide ((m:Int)<(k:Int)) = !decide (k≤m):=by rw [jh];simp
theorem qxL {m k:Nat}:decide ((m:Int) > (k:Int)) = !decide (m≤k):=by rw [jh];simp
def treeB (w:qQ) (j:Nat):Bool:=bif decide (j=0) then (at0 w.Am j==-1)&&(at0 w.Bw j==0) else inI (at0 w.Am j) 0 ((j:Int)-1)
def wireB (w:qQ) (s:Int):Bool :=
 lenB w.Am 1 8&&(((w.Bw.length:Int)==(w.Am.length:Int))&&(((w.Bt.length:Int)==(w.Am.length:Int))&&(allN (treeB w) w.Am.length &&
  ((w.Bw.all fun x=>inI x 0 1000)&&((w.Bt.all fun x=>inI x 0 500)&&(((w.Bl.length:Int)==s)&&(w.Bl.all fun x=>inI x 0 ((w.Am.length:Int)-1))))))))
theorem qvz {w:qQ} (hl:w.Am.length≤1048576) (hr:((w.Bw.length:Int)==(w.Am.length:Int))=true):Ev (fun n=>qgP n w) (allN (treeB w) w.Am.length):=by
 rw [beq_iff_eq] at hr
 have hL:Ev (fun n=>qba w n 0) (bif allN (treeB w) w.Am.length then .nxt (w.Am.length:Int) else .ret false):=by
  refine qek ?_ (fun j hj X hX=>Ev.succ ?_)
  ·exact Ev.succ (by simp only [qba,ql (jb _),cond_false];exact .done)
  ·simp only [qba,qk hj,cond_true,qab hj,ja,qdc,wS j,bne,qc4]
   unfold treeB
   by_cases h0:j=0
   ·subst h0
    rw [show idx w.Bw (0:Int)=some (at0 w.Bw 0) from qab (j:=0) (by omega)]
    simp only [ja]
    refine Ev.tt (by simp) (Ev.okP fun _=>Ev.okP1 fun _=>Ev.ff (by simp) hX)
   ·have e1:decide (j=0)=false:=by simp;omega
    have e2:((j:Int)==0)=false:=by simp;omega
    have e3:decide ((j:Int) > 0)=true:=by simp;omega
    rw [e1,e2,e3,qeT (show j≤9223372036854775807 by omega)]
    simp only [cond_false,cond_true]
    exact Ev.okP1 fun _=>hX
 unfold qgP
 refine Ev.bind hL ?_
 cases allN (treeB w) w.Am.length<;>exact .done
theorem quY {w:qQ} {s:Int} (h:qoh w):Ev (fun n=>qlg n w s) (wireB w s):=by
 have hl:=h.Am.len
 simp only [qlg,qbn,ja,qdc,qeT (show w.Am.length≤9223372036854775807 by omega)]
 unfold wireB
 rw [show inI (w.Am.length:Int) 1 8=lenB w.Am 1 8 from qsG (lo:=1) (hi:=8)]
 exact Ev.andP fun _=>Ev.andP fun hr=>Ev.andP fun _=>Ev.and (qvz hl hr) fun _=>Ev.and (qdR h.Bw.len) fun _=>Ev.and (qdR h.Bt.len) fun _=>Ev.andP fun _=>Ev.last (qdR h.Bl.len)
theorem qtT {w:qQ} {s:Int} (h:qoh w):Ev (fun n=>qlf n w s) (wireB w s):=by
 have hl:=h.Am.len
 have hsl:=h.Bl.len
 have e:wireB w s=((decide (1≤w.Am.length)&&(decide (w.Am.length≤8)&&(((w.Bw.length:Int)==(w.Am.length:Int))&&(((w.Bt.length:Int)==(w.Am.length:Int))&&((w.Bl.length:Int)==s)))))&&(allN (fun j=>(inI (at0 w.Bt j) 0 500&&inI (at0 w.Bw j) 0 1000)&&treeB w j) w.Am.length&&(w.Bl.all fun x=>inI x 0 ((w.Am.length:Int)-1)))):=by
  unfold wireB lenB
  cases h1:((w.Bw.length:Int)==(w.Am.length:Int))
  ·simp
  ·cases h2:((w.Bt.length:Int)==(w.Am.length:Int))
   ·simp
   ·rw [beq_iff_eq] at h1 h2
    rw [qlJ,qlJ]
    rw [qgK (p:=fun x=>inI x 0 1000) (d:=0),qgK (p:=fun x=>inI x 0 500) (d:=0),show w.Bw.length=w.Am.length by omega,show w.Bt.length=w.Am.length by omega]
    show _=(_&&((allN (fun j=>inI (w.Bt.getD j 0) 0 500) _&&allN (fun j=>inI (w.Bw.getD j 0) 0 1000) _&&_)&&_))
    generalize allN (fun j=>inI (w.Bt.getD j 0) 0 500) w.Am.length=a1
    generalize allN (fun j=>inI (w.Bw.getD j 0) 0 1000) w.Am.length=a2
    generalize allN (fun j=>treeB w j) w.Am.length=a3
    generalize ((w.Bl.length:Int)==s)=a4
    generalize decide (1≤w.Am.length)=a5
    generalize decide (w.Am.length≤8)=a6
    generalize (w.Bl.all fun x=>inI x 0 ((w.Am.length:Int)-1))=a7
    cases a1<;>cases a2<;>cases a3<;>cases a4<;>cases a5<;>cases a6<;>rfl
 rw [e]
 unfold qlf
 refine Ev.guardB ?_ fun hb=>?_
 ·rw [show decide ((w.Am.length:Int)<1) = !decide (1≤w.Am.length) from qxe (k:=1),show decide ((w.Am.length:Int) > 8) = !decide (w.Am.length≤8) from qxL (k:=8)]
  simp only [bne,qc4]
  exact Ev.orBP fun _=>Ev.orBP fun _=>Ev.orBP fun _=>Ev.orBP fun _=>.done
 ·simp only [jc,beq_iff_eq] at hb
  have hL1:Ev (fun n=>qcN w n 0) (bif allN (fun j=>(inI (at0 w.Bt j) 0 500&&inI (at0 w.Bw j) 0 1000)&&treeB w j) w.Am.length then .nxt (w.Am.length:Int) else .ret false):=by
   refine qek ?_ (fun j hj X hX=>Ev.succ ?_)
   ·exact Ev.succ (by simp only [qcN,ql (jb _),cond_false];exact .done)
   ·simp only [qcN,qk hj,cond_true,qab hj,qab (show j<w.Bt.length by omega),qab (show j<w.Bw.length by omega),ja,qcH,wS j,bne,qc4]
    refine Ev.chkT (Ev.orBP fun _=>.done) fun _=>?_
    unfold treeB
    by_cases h0:j=0
    ·subst h0
     refine Ev.tt (by simp) (Ev.okP fun _=>Ev.okP1 fun _=>Ev.ff (by simp) hX)
    ·have e1:decide (j=0)=false:=by simp;omega
     have e2:((j:Int)==0)=false:=by simp;omega
     have e3:decide ((j:Int) > 0)=true:=by simp;omega
     rw [e1,e2,e3,qeT (show j≤9223372036854775807 by omega)]
     simp only [cond_false,cond_true]
     exact Ev.okP1 fun _=>hX
  have hL2:Ev (fun n=>qfd w n 0) (bif (w.Bl.all fun x=>inI x 0 ((w.Am.length:Int)-1)) then .nxt (w.Bl.length:Int) else .ret false) :=
   qn5 (fun n=>by simp only [qfd,ql (jb _),cond_false]) (fun j hj X hX=>by
    simp only [qfd,qk hj,cond_true,qh1 hj,ja,qcH,qeT (show w.Am.length≤9223372036854775807 by omega),wS j,qc4]
    exact Ev.okP1 fun _=>hX)
  refine Ev.bind hL1 ?_
  cases allN (fun j=>(inI (at0 w.Bt j) 0 500&&inI (at0 w.Bw j) 0 1000)&&treeB w j) w.Am.length
  ·exact .done
  ·refine Ev.bind hL2 ?_
   cases (w.Bl.all fun x=>inI x 0 ((w.Am.length:Int)-1))<;>exact .done
instance:Inhabited Tplace:=⟨⟨0,0,0,false⟩⟩
instance:Inhabited Tl05Place:=⟨⟨0,0,0,false⟩⟩
def toSp (p:Tplace):Tl05Place:=⟨p.instance_,p.pin,p.net,p.drives⟩
def plX (i:Nat) (x:qp) (j:Nat):List Tplace:=(List.range j).map fun (k:Nat)=>⟨(i:Int),(k:Int),at0 x.Ap k,decide (k+1=x.Ap.length)⟩
def plI (d:qe) (j:Nat):List Tplace:=(List.range j).flatMap fun (i:Nat)=>plX i (gt d.Aa i) (gt d.Aa i).Ap.length
def plP (d:qe) (j:Nat):List Tplace:=(List.range j).map fun (i:Nat)=>⟨-1,(i:Int),(gt d.Aj i).Bx,(gt d.Aj i).Bv==1⟩
def places (d:qe):List Tplace:=plI d d.Aa.length++plP d d.Aj.length
theorem qtH {i:Nat} {x:qp} {j:Nat}:plX i x (j+1)=plX i x j++[⟨(i:Int),(j:Int),at0 x.Ap j,decide (j+1=x.Ap.length)⟩]:=by
 unfold plX;rw [List.range_succ,jP];rfl
theorem qnh {d:qe} {j:Nat}:plI d (j+1)=plI d j++plX j (gt d.Aa j) (gt d.Aa j).Ap.length:=by
 unfold plI;rw [List.range_succ,List.flatMap_append];simp
theorem qty {d:qe} {j:Nat}:plP d (j+1)=plP d j++[⟨-1,(j:Int),(gt d.Aj j).Bx,(gt d.Aj j).Bv==1⟩]:=by
 unfold plP;rw [List.range_succ,jP];rfl
theorem qqc {i:Nat} {x:qp} {j:Nat}:(plX i x j).length=j:=by simp [plX]
theorem qqg {d:qe} {j:Nat}:(plP d j).length=j:=by simp [plP]
structure smallD (d:qe):Prop where
 ni:d.Aa.length≤14
 nn:d.Ap.length≤30
 np:d.Aj.length≤8
 nx:∀ i,i<d.Aa.length→2≤(gt d.Aa i).Ap.length∧(gt d.Aa i).Ap.length≤5
theorem qX {l:qq} {d:qe} (h:designB l d=true):smallD d:=by
 unfold designB hasNamesB libB at h
 simp only [jc,decide_eq_true_eq] at h
 obtain ⟨⟨⟨hc,_⟩,⟨h1,h2,h3⟩,_⟩,hI,_⟩:=h
 refine ⟨h1,h2,h3,fun i hi=>?_⟩
 rw [qid,qah] at hI hc
 have:=hI i hi
 unfold instB at this
 simp only [jc,qa9,beq_iff_eq] at this
 have h5:=qgD (qiT (hc (gt d.Aa i).Bs.toNat (by omega)))
 omega
theorem qoE {d:qe} (h:smallD d) {j:Nat} (hj:j≤d.Aa.length):(plI d j).length≤5*j:=by
 induction j with
 | zero=>exact jb _
 | succ j ih =>
  rw [qnh,je,qqc]
  have:=ih (by omega)
  have:=h.nx j (by omega)
  omega
theorem qa4 {d:qe} (h:smallD d):(places d).length≤78:=by
 unfold places
 rw [je,qqg]
 have:=qoE h (jb _)
 have:=h.ni
 have:=h.np
 omega
theorem qnq {d:qe} (h:smallD d):Ev (fun n=>qch n d) (places d):=by
 have h1:=h.ni
 have h2:=h.np
 have hL2:∀ i,i<d.Aa.length→∀ pre:List Tplace,pre.length≤100→Ev (fun n=>qbF (i:Int) (gt d.Aa i) n pre 0) (pre++plX i (gt d.Aa i) (gt d.Aa i).Ap.length,((gt d.Aa i).Ap.length:Int)):=by
  intro i hi pre hp
  have h5:=h.nx i hi
  have:=loopF (Lf:=qbF (i:Int) (gt d.Aa i)) (S:=fun j=>pre++plX i (gt d.Aa i) j) (len:=(gt d.Aa i).Ap.length) (fin:=(pre++plX i (gt d.Aa i) (gt d.Aa i).Ap.length,((gt d.Aa i).Ap.length:Int))) (fun n=>by
    simp only [qbF,ql (jb _),cond_false])
   (fun j hj X hX=>by
    have hc:(pre++plX i (gt d.Aa i) j).length+[(⟨(i:Int),(j:Int),at0 (gt d.Aa i).Ap j,decide (j+1=(gt d.Aa i).Ap.length)⟩:Tplace)].length≤2147483648:=by
     rw [je,qqc];simp;omega
    simp only [qbF,qk hj,cond_true,qab hj,ja,lastE hj (show (gt d.Aa i).Ap.length≤1048576 by omega),qc2 hc,jp,←qtH,wS j]
    exact hX)
  simpa [plX] using this
 have hL1:Ev (fun n=>qbG d n ([]:List Tplace) 0) (plI d d.Aa.length,(d.Aa.length:Int)):=by
  refine loopF (Lf:=qbG d) (S:=fun j=>plI d j) (len:=d.Aa.length) (fun n=>?_) (fun j hj X hX=>?_)
  ·simp only [qbG,ql (jb _),cond_false]
  ·simp only [qbG,qk hj,cond_true,qA hj,ja,wS j]
   refine Ev.bind (hL2 j hj _ (by have:=qoE h (Nat.le_of_lt hj);omega)) ?_
   rw [←qnh]
   exact hX
 have hL3:Ev (fun n=>qbH d n (plI d d.Aa.length) 0) (places d,(d.Aj.length:Int)):=by
  have:=loopF (Lf:=qbH d) (S:=fun j=>plI d d.Aa.length++plP d j) (len:=d.Aj.length) (fin:=(places d,(d.Aj.length:Int))) (fun n=>by
    simp only [qbH,ql (jb _),cond_false];rfl)
   (fun j hj X hX=>by
    have hc:(plI d d.Aa.length++plP d j).length+[(⟨-1,(j:Int),(gt d.Aj j).Bx,(gt d.Aj j).Bv==1⟩:Tplace)].length≤2147483648:=by
     rw [je,qqg];have:=qoE h (jb _);simp;omega
    simp only [qbH,qk hj,cond_true,qA hj,ja,qc2 hc,jp,←qty,wS j]
    exact hX)
  simpa [plP] using this
 unfold qch
 exact Ev.bind hL1 (Ev.bind hL3 .done)
theorem qhF {d:qe} (h:smallD d):Ev (fun n=>qca n d) ((places d).map toSp):=by
 have h1:=h.ni
 have h2:=h.np
 have hL2:∀ i,i<d.Aa.length→∀ pre:List Tplace,pre.length≤100→Ev (fun n=>qcF (i:Int) (gt d.Aa i) n (pre.map toSp) 0) ((pre++plX i (gt d.Aa i) (gt d.Aa i).Ap.length).map toSp,((gt d.Aa i).Ap.length:Int)):=by
  intro i hi pre hp
  have h5:=h.nx i hi
  have:=loopF (Lf:=qcF (i:Int) (gt d.Aa i)) (S:=fun j=>(pre++plX i (gt d.Aa i) j).map toSp) (len:=(gt d.Aa i).Ap.length) (fin:=((pre++plX i (gt d.Aa i) (gt d.Aa i).Ap.length).map toSp,((gt d.Aa i).Ap.length:Int))) (fun n=>by
    simp only [qcF,ql (jb _),cond_false])
   (fun j hj X hX=>by
    have hc:((pre++plX i (gt d.Aa i) j).map toSp).length+[(⟨(i:Int),(j:Int),at0 (gt d.Aa i).Ap j,decide (j+1=(gt d.Aa i).Ap.length)⟩:Tl05Place)].length≤2147483648:=by
     rw [jv,je,qqc];simp;omega
    simp only [qcF,qk hj,cond_true,qab hj,ja,lastE hj (show (gt d.Aa i).Ap.length≤1048576 by omega),qc2 hc,wS j]
    rw [qtH,←jp,jP] at hX
    exact hX)
  simpa [plX] using this
 have hL1:Ev (fun n=>qcD d n ([]:List Tl05Place) 0) ((plI d d.Aa.length).map toSp,(d.Aa.length:Int)):=by
  refine loopF (Lf:=qcD d) (S:=fun j=>(plI d j).map toSp) (len:=d.Aa.length) (fun n=>?_) (fun j hj X hX=>?_)
  ·simp only [qcD,ql (jb _),cond_false]
  ·simp only [qcD,qk hj,cond_true,qA hj,ja,wS j]
   refine Ev.bind (hL2 j hj _ (by have:=qoE h (Nat.le_of_lt hj);omega)) ?_
   rw [←qnh]
   exact hX
 have hL3:Ev (fun n=>qcG d n ((plI d d.Aa.length).map toSp) 0) ((places d).map toSp,(d.Aj.length:Int)):=by
  have:=loopF (Lf:=qcG d) (S:=fun j=>(plI d d.Aa.length++plP d j).map toSp) (len:=d.Aj.length) (fin:=((places d).map toSp,(d.Aj.length:Int))) (fun n=>by
    simp only [qcG,ql (jb _),cond_false];rfl)
   (fun j hj X hX=>by
    have hc:((plI d d.Aa.length++plP d j).map toSp).length+[(⟨-1,(j:Int),(gt d.Aj j).Bx,(gt d.Aj j).Bv==1⟩:Tl05Place)].length≤2147483648:=by
     rw [jv,je,qqg];have:=qoE h (jb _);simp;omega
    simp only [qcG,qk hj,cond_true,qA hj,ja,qc2 hc,wS j]
    rw [qty,←jp,jP] at hX
    exact hX)
  simpa [plP] using this
 unfold qca
 exact Ev.bind hL1 (Ev.bind hL3 .done)
def snkQ (d:qe) (k:Int) (i:Nat):Bool:=((gt (places d) i).net==k)&&!(gt (places d) i).drives
def sinksL (d:qe) (k:Int) (j:Nat):List Int:=((List.range j).filter (snkQ d k)).map fun (i:Nat)=>(i:Int)
def snkN (d:qe) (k:Int):Nat:=cntP (snkQ d k) (places d).length
theorem qjw {d:qe} {k:Int} {j:Nat}:sinksL d k (j+1)=sinksL d k j++(bif snkQ d k j then [(j:Int)] else []):=by
 unfold sinksL
 rw [List.range_succ,List.filter_append,jP]
 congr 1
 cases h:snkQ d k j<;>simp [h]
theorem qiI {d:qe} {k:Int} {j:Nat}:(sinksL d k j).length=cntP (snkQ d k) j:=by
 induction j with
 | zero=>rfl
 | succ j ih =>
  rw [qjw,je,ih]
  show _=cntP (snkQ d k) j+_
  congr 1
  cases snkQ d k j<;>rfl
theorem qoL {α β:Type} [Inhabited α] [Inhabited β] {xs:List α} {g:α→β} {j:Nat} (h:j<xs.length):gt (xs.map g) j=g (gt xs j):=by
 rw [qe8 (by simpa using h),qe8 h];simp
theorem qm5 {d:qe} {k:Int} (h:smallD d):Ev (fun n=>qgc n d k) (sinksL d k (places d).length):=by
 have hl:=qa4 h
 have hL:Ev (fun n=>qck k ((places d).map toSp) n ([]:List Int) 0) (sinksL d k (places d).length,((places d).length:Int)):=by
  refine loopF (Lf:=qck k ((places d).map toSp)) (S:=fun j=>sinksL d k j) (len:=(places d).length) (fun n=>?_) (fun j hj X hX=>?_)
  ·simp only [qck,jv,ql (jb _),cond_false]
  ·have hj':j<((places d).map toSp).length:=by simpa using hj
   have hc:(sinksL d k j).length+[(j:Int)].length≤2147483648:=by
    rw [qiI]
    have:cntP (snkQ d k) j≤j:=qfF
    simp;omega
   simp only [qck,qk hj',cond_true,qA hj',qoL hj,ja,wS j]
   rw [show ∀ p:Tplace,(toSp p).net=p.net from fun _=>rfl,show ∀ p:Tplace,(toSp p).drives=p.drives from fun _=>rfl]
   refine Ev.bind (b:=snkQ d k j) (Ev.andP fun _=>.done) ?_
   rw [qjw] at hX
   cases hq:snkQ d k j
   ·rw [hq] at hX
    simp only [cond_false,List.append_nil] at hX ⊢
    exact hX
   ·rw [hq] at hX
    simp only [cond_true,qc2 hc,ja] at hX ⊢
    exact hX
 unfold qgc
 exact Ev.bind (qhF h) (Ev.bind hL .done)
theorem ql5 {l:qq} {d:qe} (h:designB l d=true) {i:Nat} (hi:i<(places d).length):0≤(gt (places d) i).net∧(gt (places d) i).net<d.Ap.length:=by
 unfold designB at h
 simp only [jc] at h
 obtain ⟨_,hI,hP,_⟩:=h
 rw [qid,qah] at hI hP
 have hm:gt (places d) i ∈ places d:=by rw [qe8 hi];exact jo hi
 generalize gt (places d) i=p at hm
 unfold places at hm
 rcases List.mem_append.1 hm with hm|hm
 ·unfold plI at hm
  obtain ⟨i,hi,hm⟩:=List.mem_flatMap.1 hm
  unfold plX at hm
  obtain ⟨k,hk,rfl⟩:=List.mem_map.1 hm
  have:=hI i (List.mem_range.1 hi)
  unfold instB at this
  simp only [jc] at this
  have h3:=this.2.2
  rw [qgK (d:=0),qah] at h3
  have h4:=h3 k (List.mem_range.1 hk)
  unfold netB at h4
  rw [qa9] at h4
  show 0≤at0 _ _∧at0 _ _<_
  unfold at0
  omega
 ·unfold plP at hm
  obtain ⟨i,hi,rfl⟩:=List.mem_map.1 hm
  have:=hP i (List.mem_range.1 hi)
  unfold portB netB at this
  simp only [jc,qa9] at this
  show 0≤(gt d.Aj i).Bx∧(gt d.Aj i).Bx<_
  omega
def blockB (b:qf):Bool:=(designB b.Ay b.Ab&&((b.Ac.length:Int)==(b.Ab.Ap.length:Int)))&&allN (fun j=>wireB (gt b.Ac j) (snkN b.Ab (j:Int))) b.Ac.length
theorem quq {b:qf} (h:qlv b):Ev (fun n=>qhW n b) (blockB b):=by
 have hwl:=h.Ac.len
 unfold qhW blockB
 refine Ev.guardB (Ev.or (qs4 h.Ay h.Ab) fun _=>.done) fun hb=>?_
 rw [jc,beq_iff_eq] at hb
 obtain ⟨hd,hw⟩:=hb
 have hs:=qX hd
 have hl:=qa4 hs
 have hn:=hs.nn
 rw [qnp (m:=b.Ac.length) (by omega)]
 simp only [ja]
 have hL1:Ev (fun n=>qcS (places b.Ab) n (vecC (fun _=>0) b.Ac.length) 0) (vecC (fun k=>snkN b.Ab (k:Int)) b.Ac.length,((places b.Ab).length:Int)):=by
  refine loopF (Lf:=qcS (places b.Ab)) (S:=fun j=>vecC (fun k=>cntP (snkQ b.Ab (k:Int)) j) b.Ac.length) (len:=(places b.Ab).length) (fun n=>?_) (fun j hj X hX=>?_)
  ·simp only [qcS,ql (jb _),cond_false];rfl
  ·simp only [qcS,qk hj,cond_true,qA hj,ja,wS j]
   obtain ⟨n0,n1⟩:=ql5 hd hj
   cases h1:(gt (places b.Ab) j).drives
   ·have hc:cntP (snkQ b.Ab (((gt (places b.Ab) j).net.toNat:Nat):Int)) j≤j:=qfF
    obtain ⟨e1,e2⟩:=qlr (c:=fun k=>cntP (snkQ b.Ab (k:Int)) j) (c':=fun k=>cntP (snkQ b.Ab (k:Int)) (j+1)) (x:=(gt (places b.Ab) j).net) (m:=b.Ac.length) n0 (by omega) (by show cntP _ _<_;omega) (fun k _=>by
     show cntP _ j+(bif snkQ b.Ab (k:Int) j then 1 else 0)=_
     unfold snkQ
     rw [h1,Bool.not_false,Bool.and_true])
    simp only [Bool.not_false,cond_true,ja,e1,e2]
    exact hX
   ·have:vecC (fun k=>cntP (snkQ b.Ab (k:Int)) (j+1)) b.Ac.length=vecC (fun k=>cntP (snkQ b.Ab (k:Int)) j) b.Ac.length:=by
     refine qkt (fun k _=>?_)
     show cntP _ j+(bif snkQ b.Ab (k:Int) j then 1 else 0)=_
     unfold snkQ
     rw [h1,jW,Bool.and_false];rfl
    rw [this] at hX
    exact hX
 have hL2:Ev (fun n=>qeF b (vecC (fun k=>snkN b.Ab (k:Int)) b.Ac.length) n 0) (bif allN (fun j=>wireB (gt b.Ac j) (snkN b.Ab (j:Int))) b.Ac.length then .nxt (b.Ac.length:Int) else .ret false):=by
  refine qek ?_ (fun j hj X hX=>Ev.succ ?_)
  ·exact Ev.succ (by simp only [qeF,ql (jb _),cond_false];exact .done)
  ·simp only [qeF,qk hj,cond_true,qA hj,qkL hj,ja,wS j]
   exact Ev.chk1 (quY (qmZ h.Ac hj)) fun _=>hX
 refine Ev.bind (qnq hs) (Ev.bind hL1 (Ev.bind hL2 ?_))
 cases allN (fun j=>wireB (gt b.Ac j) (snkN b.Ab (j:Int))) b.Ac.length<;>exact .done
theorem qpr {b:qf} (h:qlv b):Ev (fun n=>qg7 n b) (blockB b):=by
 have hwl:=h.Ac.len
 unfold qg7 blockB
 refine Ev.guardB (Ev.or (qsE h.Ay h.Ab) fun _=>.done) fun hb=>?_
 rw [jc] at hb
 have hs:=qX hb.1
 have hL:Ev (fun n=>qeE b n 0) (bif allN (fun j=>wireB (gt b.Ac j) (snkN b.Ab (j:Int))) b.Ac.length then .nxt (b.Ac.length:Int) else .ret false):=by
  refine qek ?_ (fun j hj X hX=>Ev.succ ?_)
  ·exact Ev.succ (by simp only [qeE,ql (jb _),cond_false];exact .done)
  ·simp only [qeE,qk hj,cond_true,qA hj,ja,wS j]
   refine Ev.bind (qm5 hs) ?_
   rw [qiI]
   exact Ev.chk1 (qtT (qmZ h.Ac hj)) fun _=>hX
 refine Ev.bind hL ?_
 cases allN (fun j=>wireB (gt b.Ac j) (snkN b.Ab (j:Int))) b.Ac.length<;>exact .done
end Go.Fw


namespace Go.Fw
open Go
set_option maxRecDepth 100000
def off (d:qe) (i:Nat):Nat:=(plI d i).length
def place1 (d:qe) (i k:Nat):Tplace:=⟨(i:Int),(k:Int),at0 (gt d.Aa i).Ap k,decide (k+1=(gt d.Aa i).Ap.length)⟩
def place2 (d:qe) (i:Nat):Tplace:=⟨-1,(i:Int),(gt d.Aj i).Bx,(gt d.Aj i).Bv==1⟩
theorem qkB {d:qe} {i:Nat}:off d (i+1)=off d i+(gt d.Aa i).Ap.length:=by
 unfold off;rw [qnh,je,qqc]
theorem qtP {d:qe} {i j:Nat} (h:i≤j):off d i≤off d j:=by
 induction j with
 | zero =>
  obtain rfl:i=0:=by omega
  exact jb _
 | succ j ih =>
  rcases Nat.lt_or_eq_of_le h with h|rfl
  ·rw [qkB];have:=ih (by omega);omega
  ·exact jb _
theorem qgI {d:qe}:(places d).length=off d d.Aa.length+d.Aj.length:=by
 unfold places off;rw [je,qqg]
theorem qyT {d:qe} {n i k:Nat} (hi:i<n) (hk:k<(gt d.Aa i).Ap.length):off d i+k<off d n∧gt (plI d n) (off d i+k)=place1 d i k:=by
 induction n with
 | zero=>omega
 | succ n ih =>
  rw [qnh,qlT]
  rcases Nat.lt_succ_iff_lt_or_eq.1 hi with h|rfl
  ·obtain ⟨h1,h2⟩:=ih h
   refine ⟨by rw [qkB];omega,?_⟩
   rw [if_pos (show off d i+k<(plI d n).length from h1),h2]
  ·refine ⟨by rw [qkB];omega,?_⟩
   rw [if_neg (by unfold off;omega),show off d i+k-(plI d i).length=k by unfold off;omega]
   exact qqF hk
theorem qkb {d:qe} {i k:Nat} (hi:i<d.Aa.length) (hk:k<(gt d.Aa i).Ap.length):off d i+k<(places d).length∧gt (places d) (off d i+k)=place1 d i k:=by
 obtain ⟨h1,h2⟩:=qyT hi hk
 refine ⟨by rw [qgI];omega,?_⟩
 unfold places
 rw [qlT,if_pos (show off d i+k<(plI d d.Aa.length).length from h1),h2]
theorem qrx {d:qe} {i:Nat} (hi:i<d.Aj.length):off d d.Aa.length+i<(places d).length∧gt (places d) (off d d.Aa.length+i)=place2 d i:=by
 refine ⟨by rw [qgI];omega,?_⟩
 unfold places
 rw [qlT,if_neg (by unfold off;omega),show off d d.Aa.length+i-(plI d d.Aa.length).length=i by unfold off;omega]
 exact qqF hi
theorem qvh {d:qe} {n j:Nat} (hj:j<off d n):∃ i k,i<n∧k<(gt d.Aa i).Ap.length∧j=off d i+k:=by
 induction n with
 | zero=>exact absurd hj (Nat.not_lt_zero _)
 | succ n ih =>
  by_cases h:j<off d n
  ·obtain ⟨i,k,h1,h2,h3⟩:=ih h
   exact ⟨i,k,by omega,h2,h3⟩
  ·rw [qkB] at hj
   exact ⟨n,j-off d n,by omega,by omega,by omega⟩
theorem qk1 {d:qe} {j:Nat} (hj:j<(places d).length) :
  (∃ i k,i<d.Aa.length∧k<(gt d.Aa i).Ap.length∧j=off d i+k∧gt (places d) j=place1 d i k) ∨
  (∃ i,i<d.Aj.length∧j=off d d.Aa.length+i∧gt (places d) j=place2 d i):=by
 rw [qgI] at hj
 by_cases h:j<off d d.Aa.length
 ·obtain ⟨i,k,h1,h2,rfl⟩:=qvh h
  exact .inl ⟨i,k,h1,h2,rfl,(qkb h1 h2).2⟩
 ·refine .inr ⟨j-off d d.Aa.length,by omega,by omega,?_⟩
  have:=(qrx (d:=d) (i:=j-off d d.Aa.length) (by omega)).2
  rwa [show off d d.Aa.length+(j-off d d.Aa.length)=j by omega] at this
def drvQ (d:qe) (k:Int) (j:Nat):Bool:=((gt (places d) j).net==k)&&(gt (places d) j).drives
theorem qsN {q:Nat→Bool} {m n:Nat}:cntP q (m+n)=cntP q m+cntP (fun j=>q (m+j)) n:=by
 induction n with
 | zero=>rfl
 | succ n ih =>
  show cntP q (m+n)+(bif q (m+n) then 1 else 0)=cntP q m+(cntP (fun j=>q (m+j)) n+(bif q (m+n) then 1 else 0))
  rw [ih];omega
theorem qvc {q:Nat→Bool} {n:Nat} {b:Bool} (h:1≤n) (h1:∀ j,j+1<n→q j=false) (h2:q (n-1)=b):cntP q n=bif b then 1 else 0:=by
 obtain ⟨m,rfl⟩:∃ m,n=m+1:=⟨n-1,by omega⟩
 show cntP q m+(bif q m then 1 else 0)=_
 rw [qnu.2 (fun j hj=>h1 j (by omega)),show m=m+1-1 by omega,h2,jU]
theorem qt6 {d:qe} {k:Nat} (hs:smallD d):cntP (drvQ d (k:Int)) (places d).length=drvI d k d.Aa.length+drvP d k d.Aj.length:=by
 rw [qgI,qsN]
 congr 1
 ·have:∀ n,n≤d.Aa.length→cntP (drvQ d (k:Int)) (off d n)=drvI d k n:=by
   intro n
   induction n with
   | zero=>intro _;rfl
   | succ n ih =>
    intro hn
    rw [qkB,qsN,ih (by omega),qo2]
    congr 1
    have h2:=(hs.nx n (by omega)).1
    refine qvc (by omega) (fun j hj=>?_) ?_
    ·show drvQ d _ (off d n+j)=false
     unfold drvQ
     rw [(qkb (by omega) (by omega)).2]
     unfold place1
     simp;omega
    ·show drvQ d _ (off d n+_)=_
     unfold drvQ
     rw [(qkb (by omega) (by omega)).2]
     unfold place1 lastN
     simp;omega
  exact this _ (jb _)
 ·refine qqv (fun j hj=>?_)
  show drvQ d _ (off d _+j)=_
  unfold drvQ
  rw [(qrx hj).2]
  unfold place2
  exact Bool.and_comm _ _
theorem quE {l:qq} {d:qe} (h:designB l d=true) {k:Nat} (hk:k<d.Ap.length):cntP (drvQ d (k:Int)) (places d).length=1:=by
 rw [qt6 (qX h)]
 unfold designB drvB at h
 simp only [jc] at h
 have:=qah.1 h.2.2.2 k hk
 rw [beq_iff_eq] at this
 omega
theorem qsU {l:qq} {d:qe} (h:designB l d=true) {i j:Nat} (hi:i<(places d).length) (hj:j<(places d).length) (he:(gt (places d) i).net=(gt (places d) j).net) (h1:(gt (places d) i).drives=true) (h2:(gt (places d) j).drives=true):i=j:=by
 obtain ⟨n0,n1⟩:=ql5 h hi
 have e:=qej n0
 have:=quE h (k:=(gt (places d) i).net.toNat) (by omega)
 refine qtn (Nat.le_of_eq this) hi hj ?_ ?_
 ·unfold drvQ;rw [←e,h1];simp
 ·unfold drvQ;rw [←e,h2,he];simp
theorem qyv {l:qq} {d:qe} (h:designB l d=true) {k:Int} (h0:0≤k) (h1:k<d.Ap.length):∃ j,j<(places d).length∧(gt (places d) j).net=k∧(gt (places d) j).drives=true:=by
 have e:=qej h0
 have:=quE h (k:=k.toNat) (by omega)
 have hp:decide (0<cntP (drvQ d ((k.toNat:Nat):Int)) (places d).length)=true:=by rw [this];rfl
 rw [qtb,jE,ql4] at hp
 obtain ⟨j,hj,hq⟩:=hp
 rw [Bool.not_eq_false',←e] at hq
 unfold drvQ at hq
 simp only [jc,beq_iff_eq] at hq
 exact ⟨j,hj,hq.1,hq.2⟩
def cellAt (b:qf) (i:Int):qB:=gt b.Ay.Au (gt b.Ab.Aa i.toNat).Bs.toNat
theorem qgZ {l:qq} {d:qe} (h:designB l d=true) {i:Nat} (hi:i<d.Aa.length) :
  (0≤(gt d.Aa i).Bs∧(gt d.Aa i).Bs<l.Au.length)∧(gt d.Aa i).Ap.length=(gt l.Au (gt d.Aa i).Bs.toNat).Be.length∧cellB (gt l.Au (gt d.Aa i).Bs.toNat)=true:=by
 unfold designB libB at h
 simp only [jc] at h
 obtain ⟨⟨⟨hc,_⟩,_⟩,hI,_⟩:=h
 rw [qid,qah] at hI hc
 have:=hI i hi
 unfold instB at this
 simp only [jc,qa9,beq_iff_eq] at this
 exact ⟨⟨this.1.1,by omega⟩,by omega,hc _ (by omega)⟩
theorem qmW {c:qB} (h:cellB c=true) {j:Nat} (hj:j<c.Av.length):(1≤(gt c.Av j).Bf∧(gt c.Av j).Bf≤5)∧(0≤(gt c.Av j).Bk∧(gt c.Av j).Bk<(c.Be.length:Int)-1)∧(0≤(gt c.Av j).To∧(gt c.Av j).To≤(c.Be.length:Int)-1)∧arcS c.Be (gt c.Av j)=true:=by
 unfold cellB at h
 simp only [jc] at h
 obtain ⟨_,hp,⟨ha,_⟩,_,_,hk⟩:=h
 have:=qah.1 ha j hj
 rw [jc,qw8 hp (qrP hk)] at this
 have h1:=this.1
 refine ⟨qrH h1,?_⟩
 have h2:=h1
 unfold arcS at h2
 simp only [jc,qa9] at h2
 refine ⟨⟨h2.1.1.1,by omega⟩,h2.1.2,h1⟩
theorem qnM {c:qB} (h:cellB c=true):c.Av.length≤8:=by
 unfold cellB at h
 simp only [jc,decide_eq_true_eq] at h
 exact h.2.2.1.2
theorem qas {b:qf} (h:blockB b=true):designB b.Ay b.Ab=true:=by
 unfold blockB at h;simp only [jc] at h;exact h.1.1
end Go.Fw
