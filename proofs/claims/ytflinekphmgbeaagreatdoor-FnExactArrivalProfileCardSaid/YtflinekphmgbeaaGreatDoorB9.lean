/- By a program of mine (gen.py): for each function a plain function and the proof that the code computes it. -/
import Derived.Test.YtflinekphmgbeaaGreatDoorA2
import Derived.Test.YtflinekphmgbeaaGreatDoorFw30
open Option renaming bind_some → jd
open Nat renaming le_refl → je, mul_le_mul_right → jr, le_of_ble_eq_true → jt, lt_of_lt_of_le → jx, succ_mul → jK, zero_add → jZ, add_zero → Ja
open Bool renaming and_eq_true → jf, eq_iff_iff → jm, true_and → jA, not_eq_true' → jJ, not_true → Jb
open Go.Result renaming andThen_ok → jg
open List renaming length_append → jh, getElem?_eq_getElem → ji, mem_cons_of_mem → jo, getElem_mem → jp, append_assoc → jq, length_singleton → js, getElem?_append_left → ju, take_succ_eq_append_getElem → jv, getD_eq_getElem?_getD → jw, mem_cons_self → jy, length_map → jz, getElem?_take → jB, getElem?_append_right → jC, take_length → jD, getElem?_toArray → jE, drop_eq_getElem_cons → jF, eq_nil_of_length_eq_zero → jH, length_take → jI, map_append → jL, all_eq_true → jM, not_mem_nil → jO, getElem_of_mem → jP, length_replicate → jQ, size_toArray → jR, mem_cons → jU, append_nil → jX, ext_getElem → jY
open Go.Sem renaming run_bind → jj, run_pure → jk
open Int renaming toNat_natCast → jn, tdiv_eq_ediv_of_nonneg → jG, mul_nonneg → jS, mul_assoc → jT, mul_le_mul → jV, le_refl → jW
open Array renaming getElem?_append_left → jN

namespace Go.Fw
open Go Go.Proofs
open Go.RowKit (Below)
set_option maxRecDepth 100000
set_option maxHeartbeats 1600000
variable {n:Nat} {w:World} {cs1 cs2 cs3 cs4 cs5 cs6 cs7 cs8 cs9:List Value}
def qdB (a_0:qw) (i1:Int) (y1:qG):Nat→Int→Option (Flow Bool Int)
 | 0,_=>none
 | n+1,i2 =>
  bif decide (i2<i1) then
   (idx a_0.Au i2).bind fun y2 =>
   bif (y2.Bf==y1.Bf) then
    (idx a_0.Au i2).bind fun y3 =>
    bif (y3.Bk==y1.Bk) then
     (idx a_0.Au i2).bind fun y4 =>
     bif (y4.To==y1.To) then some (.ret false) else
     qdB a_0 i1 y1 n (W64 (i2+1))
    else
     qdB a_0 i1 y1 n (W64 (i2+1))
   else
    qdB a_0 i1 y1 n (W64 (i2+1))
  else
   some (.nxt i2)
def qfT (a_0:qw):Nat→Int→Option (Flow Bool Int)
 | 0,_=>none
 | n+1,i3 =>
  bif decide (i3<(a_0.Bo.length:Int)) then
   (idx a_0.Bo i3).bind fun y5 =>
   (qau n y5 0 1).bind fun r6 =>
   bif (!r6) then some (.ret false) else
   qfT a_0 n (W64 (i3+1))
  else
   some (.nxt i3)
def qfE (a_0:qw):Nat→Int→Option (Flow Bool Int)
 | 0,_=>none
 | n+1,i1 =>
  bif decide (i1<(a_0.Au.length:Int)) then
   (idx a_0.Au i1).bind fun y1 =>
   (qlJ n a_0 y1).bind fun r4 =>
   bif (!r4) then some (.ret false) else
   (qdB a_0 i1 y1 n 0).bind fun o=>match o with
   | .ret r=>some (.ret r)
   | .nxt _ =>
    qfE a_0 n (W64 (i1+1))
  else
   some (.nxt i1)
def qlx (n:Nat) (a_0:qw):Option Bool :=
 (qkz n a_0).bind fun o=>match o with
  | (r2,r3) =>
   (
    bif (!r3) then some true else
    (qf7 n a_0.Bb).bind fun r7 =>
    bif (!r7) then some true else
    bif decide ((a_0.Au.length:Int) > 8) then some true else
    (qau n a_0.Ca 0 100000).bind fun r8 =>
    bif (!r8) then some true else
    (qau n a_0.Bu 0 100000).bind fun r9 =>
    some (!r9)).bind fun b1 =>
   bif b1 then some false else
   (qfE a_0 n 0).bind fun o=>match o with
   | .ret r=>some r
   | .nxt _ =>
    (qjz n a_0).bind fun r5 =>
    bif (a_0.Bf==1) then
     (qfT a_0 n 0).bind fun o=>match o with
     | .ret r=>some r
     | .nxt _ =>
      bif (r2==0) then
       (shlS 1 (IntKind.wrap .u64 (W64 ((a_0.Bd.length:Int)-1)))).bind fun y6 =>
       some ((a_0.Bo.length:Int)==y6)
      else
       some false
    else
     bif (a_0.Bf==2) then
      bif (r2==1) then
       (idx r5 1).bind fun y7 =>
       bif (y7==0) then
        (idx r5 2).bind fun y8 =>
        (idx r5 3).bind fun y9 =>
        bif (!((decide (y8 > 0))==(decide (y9 > 0)))) then some ((a_0.Bo.length:Int)==0) else
        some false
       else
        some false
      else
       some false
     else
      bif (a_0.Bf==3) then
       bif (r2==1) then
        (idx r5 1).bind fun y10 =>
        bif decide (y10 > 0) then
         (idx r5 2).bind fun y11 =>
         bif decide (y11 > 0) then
          (idx r5 3).bind fun y12 =>
          bif (y12==0) then some ((a_0.Bo.length:Int)==0) else
          some false
         else
          some false
        else
         some false
       else
        some false
      else
       some false
theorem qrR {a_0:qw} (ha1:Ro w a_0 cs1) {r:Bool} (hF:qlx n a_0=some r):RetV Tryz.prog 237 [GoT.v qw cs1] w r:=by
 obtain ⟨p1,k1,p2,k2,p3,k3,rfl,s1,s2,s3⟩:=qad ha1
 refine zV 182 Tryz.func237 rfl fun h=>zSR (qv h rfl rfl fun w1 bb1 h=>X1 5 0 h rfl ?_)
 obtain ⟨r1,hr1,hF⟩:=qc hF
 obtain ⟨r2,r3⟩:=r1
 refine qa5 (r2,r3) h (cB 260 rfl) (qqj (h.old ha1) hr1) rfl rfl rfl rfl fun w2 S1 us1 hv1 hr2=>?_
 obtain ⟨S2,us2,rfl,hv2,hr3⟩:=hv1.consI hr2
 obtain ⟨rfl,h⟩:=hv2.lastB hr3
 refine X0 8 rfl ?_
 obtain ⟨KF1,hKF1,o4,hF,hK4⟩:=bindE hF
 refine qbe (fun e w'=>∃ (b1:Bool),KF1 b1=some r∧e=[(1,.pointer (some ⟨bb1,0,none⟩)),(3,.int .i64 r2),(40,.bool b1)]∧SH w w' [Ch.box bb1 (qee a_0 p1 p2 p3 k1 k2 k3) 168]) ?_ ?_
 ·refine X0 4 rfl (qj (t:=17) hF rfl ?_ ?_)<;>intro hF
  ·refine X0 24 rfl ?_
   obtain rfl:=qb hF
   exact rG ⟨_,hK4,rfl,h⟩ rfl
  refine X1 5 0 h rfl (zcB h hF qh1 rfl fun r7 w18 h hF=>X0 4 rfl (qj (t:=23) hF rfl ?_ ?_))<;>intro hF
  ·refine X0 18 rfl ?_
   obtain rfl:=qb hF
   exact rG ⟨_,hK4,rfl,h⟩ rfl
  refine X1 10 0 h rfl (qj (t:=29) hF rfl ?_ ?_)<;>intro hF
  ·refine X0 12 rfl ?_
   obtain rfl:=qb hF
   exact rG ⟨_,hK4,rfl,h⟩ rfl
  refine X1 5 0 h rfl (zcB h hF qai rfl fun r8 w19 h hF=>X0 4 rfl (qj (t:=35) hF rfl ?_ ?_))<;>intro hF
  ·refine X0 6 rfl ?_
   obtain rfl:=qb hF
   exact rG ⟨_,hK4,rfl,h⟩ rfl
  refine X1 5 0 h rfl (zcB h hF qai rfl fun r9 w20 h hF=>X0 4 rfl ?_)
  obtain rfl:=qb hF
  exact rG ⟨_,hK4,rfl,h⟩ rfl
 rintro e4 w21 ⟨b1,hF,rfl,h⟩
 subst hKF1
 refine qh rfl hF ?_ ?_<;>intro hF
 ·exact X0 4 rfl (rb h hF rfl)
 refine X0 6 rfl ?_
 obtain ⟨o1,hF,hK1⟩:=qc hF
 refine qm (rL (fun m e w'=>∃ (i1:Int),qfE a_0 m i1=some o1∧e=[(1,.pointer (some ⟨bb1,0,none⟩)),(3,.int .i64 r2),(5,.int .i64 i1)]∧SH w w' [Ch.box bb1 (qee a_0 p1 p2 p3 k1 k2 k3) 168]) n ⟨_,hF,rfl,h⟩ rfl ?_)
 rintro m1 e1 w3 ⟨i1,hF,rfl,h⟩
 rcases m1 with _|m1
 ·cases hF
 refine X1 9 0 h rfl (qh rfl hF ?_ ?_)<;>intro hF
 ·refine X1 8 0 h rfl ?_
  obtain ⟨y1,hy1,hF,he1,b2,_,q1,cs2,hp1,hq1,hr5,hc3⟩:=s2.ix hF
  obtain ⟨p4,k4,p5,k5,rfl,s4,s5⟩:=qae hr5
  refine zxe hp1 hq1 he1 rfl (zc 0 (hc3.below h.below) rfl (qp qa h rfl rfl rfl fun w4 bb2 h=>zs 0 h rfl fun w5 h=>X2 6 1 0 h rfl (zcB h hF (qrt (h.old ha1) (qfY y1 (h.oldS s4) (h.oldS s5))) rfl fun r4 w6 h hF=>X0 2 rfl (qh rfl hF ?_ ?_))))<;>intro hF
  ·refine X0 4 rfl ?_
   obtain rfl:=qb hF;replace hF:=hK1
   exact rb h hF rfl
  refine X0 5 rfl ?_
  obtain ⟨o2,hF,hK2⟩:=qc hF
  refine qm (rL (fun m e w'=>∃ (i2:Int),qdB a_0 i1 y1 m i2=some o2∧e=[(1,.pointer (some ⟨bb1,0,none⟩)),(3,.int .i64 r2),(5,.int .i64 i1),(6,.pointer (some ⟨bb2,0,none⟩)),(7,.int .i64 i2)]∧SH w w' [Ch.box bb2 (qg6 y1 p4 p5 k4 k5) 173,Ch.box bb1 (qee a_0 p1 p2 p3 k1 k2 k3) 168]) m1 ⟨_,hF,rfl,h⟩ rfl ?_)
  rintro m2 e2 w7 ⟨i2,hF,rfl,h⟩
  rcases m2 with _|m2
  ·cases hF
  refine X0 7 rfl (qh rfl hF ?_ ?_)<;>intro hF
  ·refine X0 4 rfl (rD (Y1 2 1 h rfl ?_))
   refine zd1 rfl ?_
   obtain ⟨y2,hy2,hF,he2,b3,_,q2,cs3,hp2,hq2,hr7,hc6⟩:=s2.ix hF
   obtain ⟨p6,k6,p7,k7,rfl,s6,s7⟩:=qae hr7
   refine zdxe hp2 hq2 he2 rfl (zd1 rfl (zdc 0 (hc6.below h.below) rfl (Y1 2 0 h rfl ?_)))
   refine zd2 rfl (qaT (t:=71) hF rfl ?_ ?_)<;>intro hF
   ·refine Y1 4 1 h rfl ?_
    refine Y0 3 rfl ?_
    obtain ⟨y3,hy3,hF,he3,b4,_,q3,cs4,hp3,hq3,hr8,hc7⟩:=s2.ix hF
    obtain ⟨p8,k8,p9,k9,rfl,s8,s9⟩:=qae hr8
    refine zdxe hp3 hq3 he3 rfl (Y0 3 rfl (zdc 1 (hc7.below h.below) rfl (Y1 4 0 h rfl ?_)))
    refine Y0 4 rfl (qaT (t:=82) hF rfl ?_ ?_)<;>intro hF
    ·refine Y1 4 1 h rfl ?_
     refine Y0 3 rfl ?_
     obtain ⟨y4,hy4,hF,he4,b5,_,q4,cs5,hp4,hq4,hr9,hc8⟩:=s2.ix hF
     obtain ⟨p10,k10,p11,k11,rfl,s10,s11⟩:=qae hr9
     refine zdxe hp4 hq4 he4 rfl (Y0 3 rfl (zdc 2 (hc8.below h.below) rfl (Y1 4 0 h rfl ?_)))
     refine Y0 3 rfl (dN h fun w8 h=>qh rfl hF ?_ ?_)<;>intro hF
     ·refine X0 4 rfl ?_
      obtain rfl:=qb hF;replace hF:=hK2
      obtain rfl:=qb hF;replace hF:=hK1
      exact rb h hF rfl
     exact X0 7 rfl (rK ⟨_,hF,rfl,h⟩ rfl)
    exact Y0 10 rfl (dN h fun w9 h=>qbW rfl rfl (X0 7 rfl (rK ⟨_,hF,rfl,h⟩ rfl)))
   exact Y0 21 rfl (dN h fun w10 h=>qbW rfl rfl (X0 7 rfl (rK ⟨_,hF,rfl,h⟩ rfl)))
  refine qq rfl ?_
  obtain rfl:=qb hF;replace hF:=hK2
  refine X0 6 rfl ?_
  replace h:=h.pick [1] rfl
  exact rK ⟨_,hF,rfl,h⟩ rfl
 refine qq rfl ?_
 obtain rfl:=qb hF;replace hF:=hK1
 refine X1 3 0 h rfl (zcL h hF (qpE (h.old ha1)) rfl fun r5 w11 S4 p12 k12 h hF=>X1 14 1 h rfl (qh rfl hF ?_ ?_))<;>intro hF
 ·refine X0 5 rfl ?_
  obtain ⟨o3,hF,hK3⟩:=qc hF
  refine qm ?_
  replace h:=h.pick [1] rfl
  refine rL (fun m e w'=>∃ (i3:Int),qfT a_0 m i3=some o3∧e=[(1,.pointer (some ⟨bb1,0,none⟩)),(3,.int .i64 r2),(9,.int .i64 i3)]∧SH w w' [Ch.box bb1 (qee a_0 p1 p2 p3 k1 k2 k3) 168]) n ⟨_,hF,rfl,h⟩ rfl ?_
  rintro m3 e3 w12 ⟨i3,hF,rfl,h⟩
  rcases m3 with _|m3
  ·cases hF
  refine X1 9 0 h rfl (qh rfl hF ?_ ?_)<;>intro hF
  ·refine X1 8 0 h rfl ?_
   obtain ⟨y5,hy5,hF,he5,b6,_,q5,cs6,hp5,hq5,rfl,hc12⟩:=s3.ix hF
   refine zxe hp5 hq5 he5 rfl (zc 0 (hc12.below h.below) rfl (zcB h hF qai rfl fun r6 w13 h hF=>X0 2 rfl (qh rfl hF ?_ ?_)))<;>intro hF
   ·refine X0 4 rfl ?_
    obtain rfl:=qb hF;replace hF:=hK3
    exact rb h hF rfl
   exact X0 7 rfl (rK ⟨_,hF,rfl,h⟩ rfl)
  refine qq rfl ?_
  obtain rfl:=qb hF;replace hF:=hK3
  refine X0 5 rfl (qj (t:=115) hF rfl ?_ ?_)<;>intro hF
  ·refine X2 17 0 0 h rfl ?_
   obtain ⟨y6,hx1,hF⟩:=qc hF
   obtain ⟨g1,hx1⟩:=qsL hx1
   refine r_v (qzr g1 rfl rfl) rfl ?_
   rw [hx1]
   exact X0 5 rfl (rb h hF rfl)
  exact X0 13 rfl (rb h hF rfl)
 refine X0 5 rfl (qh rfl hF ?_ ?_)<;>intro hF
 ·refine qcP (rD (zd3 rfl (qaT (t:=131) hF rfl ?_ ?_)))<;>intro hF
  ·refine Y0 3 rfl ?_
   obtain ⟨y7,hy6,hF,he6,b7,_,q6,cs7,hp6,hq6,rfl,hc15⟩:=(h.sl 0 rfl).1.ix hF
   refine zdx hp6 hq6 ⟨he6.1,qC he6.2.1 (h.sl 0 rfl).2⟩ rfl (Y0 1 rfl (zdc 0 hc15 rfl (Y0 4 rfl (qaT (t:=137) hF rfl ?_ ?_))))<;>intro hF
   ·refine Y0 3 rfl ?_
    obtain ⟨y8,hy7,hF,he7,b8,_,q7,cs8,hp7,hq7,rfl,hc16⟩:=(h.sl 0 rfl).1.ix hF
    refine zdx hp7 hq7 ⟨he7.1,qC he7.2.1 (h.sl 0 rfl).2⟩ rfl (Y0 1 rfl (zdc 0 hc16 rfl (Y0 5 rfl ?_)))
    obtain ⟨y9,hy8,hF,he8,b9,_,q8,cs9,hp8,hq8,rfl,hc17⟩:=(h.sl 0 rfl).1.ix hF
    refine zdx hp8 hq8 ⟨he8.1,qC he8.2.1 (h.sl 0 rfl).2⟩ rfl (Y0 1 rfl (zdc 0 hc17 rfl (Y0 6 rfl (qaT (t:=148) hF rfl ?_ ?_))))<;>intro hF
    ·refine Y1 4 1 h rfl ?_
     exact Y0 6 rfl (dN h fun w14 h=>rb h hF rfl)
    exact Y0 6 rfl (dN h fun w15 h=>rb h hF rfl)
   exact Y0 17 rfl (dN h fun w16 h=>rb h hF rfl)
  exact Y0 23 rfl (dN h fun w17 h=>rb h hF rfl)
 refine X0 5 rfl (qh rfl hF ?_ ?_)<;>intro hF
 ·refine X0 5 rfl (qj (t:=158) hF rfl ?_ ?_)<;>intro hF
  ·refine X0 3 rfl ?_
   obtain ⟨y10,hy9,hF,he9,b10,_,q9,cs10,hp9,hq9,rfl,hc19⟩:=(h.sl 0 rfl).1.ix hF
   refine zx hp9 hq9 ⟨he9.1,qC he9.2.1 (h.sl 0 rfl).2⟩ rfl (X0 1 rfl (zc 0 hc19 rfl (X0 4 rfl (qj (t:=164) hF rfl ?_ ?_))))<;>intro hF
   ·refine X0 3 rfl ?_
    obtain ⟨y11,hy10,hF,he10,b11,_,q10,cs11,hp10,hq10,rfl,hc20⟩:=(h.sl 0 rfl).1.ix hF
    refine zx hp10 hq10 ⟨he10.1,qC he10.2.1 (h.sl 0 rfl).2⟩ rfl (X0 1 rfl (zc 0 hc20 rfl (X0 4 rfl (qj (t:=170) hF rfl ?_ ?_))))<;>intro hF
    ·refine X0 3 rfl ?_
     obtain ⟨y12,hy11,hF,he11,b12,_,q11,cs12,hp11,hq11,rfl,hc21⟩:=(h.sl 0 rfl).1.ix hF
     refine zx hp11 hq11 ⟨he11.1,qC he11.2.1 (h.sl 0 rfl).2⟩ rfl (X0 1 rfl (zc 0 hc21 rfl (X0 4 rfl (qj (t:=176) hF rfl ?_ ?_))))<;>intro hF
     ·exact X1 11 1 h rfl (rb h hF rfl)
     exact X0 7 rfl (rb h hF rfl)
    exact X0 13 rfl (rb h hF rfl)
   exact X0 19 rfl (rb h hF rfl)
  exact X0 25 rfl (rb h hF rfl)
 exact X0 6 rfl (rb h hF rfl)
def qdH (l:qn) (i1:Int):Nat→Int→Option (Flow Bool Int)
 | 0,_=>none
 | n+1,i2 =>
  bif decide (i2<i1) then
   (idx l.As i2).bind fun y2 =>
   (idx l.As i1).bind fun y3 =>
   bif (y2.Bb.toList==y3.Bb.toList) then some (.ret false) else
   qdH l i1 n (W64 (i2+1))
  else
   some (.nxt i2)
def qdD (l:qn):Nat→Int→Option (Flow Bool Int)
 | 0,_=>none
 | n+1,i1 =>
  bif decide (i1<(l.As.length:Int)) then
   (idx l.As i1).bind fun y1 =>
   (qlx n y1).bind fun r1 =>
   bif (!r1) then some (.ret false) else
   (qdH l i1 n 0).bind fun o=>match o with
   | .ret r=>some (.ret r)
   | .nxt _ =>
    qdD l n (W64 (i1+1))
  else
   some (.nxt i1)
def qiy (n:Nat) (l:qn):Option Bool :=
 (qdD l n 0).bind fun o=>match o with
 | .ret r=>some r
 | .nxt _ =>
  some (decide ((l.As.length:Int)≤8))
theorem qpd {l:qn} (ha1:Ro w l cs1) {r:Bool} (hF:qiy n l=some r):RetV Tryz.prog 206 [GoT.v qn cs1] w r:=by
 obtain ⟨p1,k1,rfl,s1⟩:=qbz ha1
 refine zV 41 Tryz.func206 rfl fun h=>zSR (qv h rfl rfl fun w1 bb1 h=>X0 7 rfl ?_)
 obtain ⟨o1,hF,hK1⟩:=qc hF
 refine qm (rL (fun m e w'=>∃ (i1:Int),qdD l m i1=some o1∧e=[(1,.pointer (some ⟨bb1,0,none⟩)),(3,.int .i64 i1)]∧SH w w' [Ch.box bb1 [.slice p1 l.As.length k1] 44]) n ⟨_,hF,rfl,h⟩ rfl ?_)
 rintro m1 e1 w2 ⟨i1,hF,rfl,h⟩
 rcases m1 with _|m1
 ·cases hF
 refine X1 9 0 h rfl (qh rfl hF ?_ ?_)<;>intro hF
 ·refine X1 9 0 h rfl ?_
  obtain ⟨y1,hy1,hF,he1,b1,_,q1,cs2,hp1,hq1,hr1,hc2⟩:=s1.ix hF
  obtain ⟨p2,k2,p3,k3,p4,k4,rfl,s2,s3,s4⟩:=qad hr1
  refine zxe hp1 hq1 he1 rfl (zc 0 (hc2.below h.below) rfl (zcB h hF (qrR (qkJ y1 (h.oldS s2) (h.oldS s3) (h.oldS s4))) rfl fun r1 w3 h hF=>X0 2 rfl (qh rfl hF ?_ ?_)))<;>intro hF
  ·refine X0 4 rfl ?_
   obtain rfl:=qb hF;replace hF:=hK1
   exact rb h hF rfl
  refine X0 5 rfl ?_
  obtain ⟨o2,hF,hK2⟩:=qc hF
  refine qm (rL (fun m e w'=>∃ (i2:Int),qdH l i1 m i2=some o2∧e=[(1,.pointer (some ⟨bb1,0,none⟩)),(3,.int .i64 i1),(4,.int .i64 i2)]∧SH w w' [Ch.box bb1 [.slice p1 l.As.length k1] 44]) m1 ⟨_,hF,rfl,h⟩ rfl ?_)
  rintro m2 e2 w4 ⟨i2,hF,rfl,h⟩
  rcases m2 with _|m2
  ·cases hF
  refine X0 7 rfl (qh rfl hF ?_ ?_)<;>intro hF
  ·refine X0 4 rfl (rD (Y1 2 0 h rfl ?_))
   refine zd1 rfl ?_
   obtain ⟨y2,hy2,hF,he2,b2,_,q2,cs3,hp2,hq2,hr3,hc5⟩:=s1.ix hF
   obtain ⟨p5,k5,p6,k6,p7,k7,rfl,s5,s6,s7⟩:=qad hr3
   refine zdxe hp2 hq2 he2 rfl (zd1 rfl (zdc 0 (hc5.below h.below) rfl (Y1 2 0 h rfl ?_)))
   refine zd1 rfl ?_
   obtain ⟨y3,hy3,hF,he3,b3,_,q3,cs4,hp3,hq3,hr4,hc6⟩:=s1.ix hF
   obtain ⟨p8,k8,p9,k9,p10,k10,rfl,s8,s9,s10⟩:=qad hr4
   refine zdxe hp3 hq3 he3 rfl (zd1 rfl (zdc 0 (hc6.below h.below) rfl (zd1 rfl (dN h fun w5 h=>qh rfl hF ?_ ?_))))<;>intro hF
   ·refine X0 4 rfl ?_
    obtain rfl:=qb hF;replace hF:=hK2
    obtain rfl:=qb hF;replace hF:=hK1
    exact rb h hF rfl
   exact X0 7 rfl (rK ⟨_,hF,rfl,h⟩ rfl)
  refine qq rfl ?_
  obtain rfl:=qb hF;replace hF:=hK2
  exact X0 6 rfl (rK ⟨_,hF,rfl,h⟩ rfl)
 refine qq rfl ?_
 obtain rfl:=qb hF;replace hF:=hK1
 exact X1 8 0 h rfl (rb h hF rfl)
def qeo (a_1:qd) (y1:qi):Nat→Int→Option (Flow Bool Int)
 | 0,_=>none
 | n+1,i2 =>
  bif decide (i2<(y1.Ak.length:Int)) then
   (idx y1.Ak i2).bind fun y2 =>
   (qau n y2 0 (W64 ((a_1.Ak.length:Int)-1))).bind fun r1 =>
   bif (!r1) then some (.ret false) else
   qeo a_1 y1 n (W64 (i2+1))
  else
   some (.nxt i2)
def qep (a_1:qd):Nat→Int→Option (Flow Bool Int)
 | 0,_=>none
 | n+1,i3 =>
  bif decide (i3<(a_1.Aj.length:Int)) then
   (idx a_1.Aj i3).bind fun y4 =>
   (qau n y4.Bv 1 2).bind fun r3 =>
   bif (!r3) then some (.ret false) else
   (idx a_1.Aj i3).bind fun y5 =>
   (qau n y5.Bx 0 (W64 ((a_1.Ak.length:Int)-1))).bind fun r4 =>
   bif (!r4) then some (.ret false) else
   qep a_1 n (W64 (i3+1))
  else
   some (.nxt i3)
def qeu (a_0:qn) (a_1:qd):Nat→Int→Option (Flow Bool Int)
 | 0,_=>none
 | n+1,i1 =>
  bif decide (i1<(a_1.Aa.length:Int)) then
   (idx a_1.Aa i1).bind fun y1 =>
   (
    (qau n y1.Bt 0 (W64 ((a_0.As.length:Int)-1))).bind fun r2 =>
    bif (!r2) then some true else
    (idx a_0.As y1.Bt).bind fun y3 =>
    some ((y1.Ak.length:Int) != (y3.Bd.length:Int))).bind fun b2 =>
   bif b2 then some (.ret false) else
   (qeo a_1 y1 n 0).bind fun o=>match o with
   | .ret r=>some (.ret r)
   | .nxt _ =>
    qeu a_0 a_1 n (W64 (i1+1))
  else
   some (.nxt i1)
def qjt (n:Nat) (a_0:qn) (a_1:qd):Option Bool :=
 (qeu a_0 a_1 n 0).bind fun o=>match o with
 | .ret r=>some r
 | .nxt _ =>
  (qep a_1 n 0).bind fun o=>match o with
  | .ret r=>some r
  | .nxt _ =>
   some true
theorem qpP {a_0:qn} {a_1:qd} (ha1:Ro w a_0 cs1) (ha2:Ro w a_1 cs2) {r:Bool} (hF:qjt n a_0 a_1=some r):RetV Tryz.prog 207 [GoT.v qn cs1,GoT.v qd cs2] w r:=by
 obtain ⟨p1,k1,rfl,s1⟩:=qbz ha1
 obtain ⟨p2,k2,p3,k3,p4,k4,rfl,s2,s3,s4⟩:=qay ha2
 refine zV 90 Tryz.func207 rfl fun h=>zSR (qv h rfl rfl fun w1 bb1 h=>qv h rfl rfl fun w2 bb2 h=>X1 14 0 h rfl ?_)
 obtain ⟨o1,hF,hK1⟩:=qc hF
 refine qm (rL (fun m e w'=>∃ (i1:Int),qeu a_0 a_1 m i1=some o1∧e=[(2,.pointer (some ⟨bb1,0,none⟩)),(3,.pointer (some ⟨bb2,0,none⟩)),(5,.int .i64 (a_1.Ak.length:Int)),(6,.int .i64 i1)]∧SH w w' [Ch.box bb2 (qaS a_1 p2 p3 p4 k2 k3 k4) 48,Ch.box bb1 [.slice p1 a_0.As.length k1] 44]) n ⟨_,hF,rfl,h⟩ rfl ?_)
 rintro m1 e1 w3 ⟨i1,hF,rfl,h⟩
 rcases m1 with _|m1
 ·cases hF
 refine X1 9 0 h rfl (qh rfl hF ?_ ?_)<;>intro hF
 ·refine X1 8 0 h rfl ?_
  obtain ⟨y1,hy1,hF,he1,b1,_,q1,cs3,hp1,hq1,hr1,hc2⟩:=s2.ix hF
  obtain ⟨p5,k5,rfl,s5⟩:=qP hr1
  refine zxe hp1 hq1 he1 rfl (zc 0 (hc2.below h.below) rfl (qp qa h rfl rfl rfl fun w4 bb3 h=>zs 0 h rfl fun w5 h=>zNSS ?_))
  obtain ⟨KF1,hKF1,o3,hF,hK3⟩:=bindE hF
  refine qbe (fun e w'=>∃ (b2:Bool),KF1 b2=some o1∧e=[(2,.pointer (some ⟨bb1,0,none⟩)),(3,.pointer (some ⟨bb2,0,none⟩)),(5,.int .i64 (a_1.Ak.length:Int)),(6,.int .i64 i1),(7,.pointer (some ⟨bb3,0,none⟩)),(46,.bool b2)]∧SH w w' [Ch.box bb3 (qjX y1 p5 k5) 170,Ch.box bb2 (qaS a_1 p2 p3 p4 k2 k3 k4) 48,Ch.box bb1 [.slice p1 a_0.As.length k1] 44]) ?_ ?_
  ·refine rD (Y1 2 0 h rfl ?_)
   refine Y1 2 2 h rfl ?_
   refine zd2 rfl ?_
   obtain ⟨r2,hr4,hF⟩:=qc hF
   refine qa0 r2 (vsB _) (cB 63 rfl) (fun _ hb=>qai  hr4) rfl rfl rfl rfl (zd2 rfl (qaT (t:=33) hF rfl ?_ ?_))<;>intro hF
   ·refine Y0 13 rfl (dN h fun w8 h=>?_)
    obtain rfl:=qb hF
    exact rG ⟨_,hK3,rfl,h⟩ rfl
   refine Y1 4 0 h rfl ?_
   refine Y1 6 2 h rfl ?_
   refine Y1 4 0 h rfl ?_
   refine Y0 1 rfl ?_
   obtain ⟨y3,hy3,hF,he3,b4,_,q3,cs5,hp3,hq3,hr5,hc7⟩:=s1.ix hF
   obtain ⟨p6,k6,p7,k7,p8,k8,rfl,s6,s7,s8⟩:=qad hr5
   refine zdxe hp3 hq3 he3 rfl (Y0 3 rfl (zdc 2 (hc7.below h.below) rfl (Y0 5 rfl (dN h fun w9 h=>?_))))
   obtain rfl:=qb hF
   exact rG ⟨_,hK3,rfl,h⟩ rfl
  rintro e3 w10 ⟨b2,hF,rfl,h⟩
  subst hKF1
  refine qh rfl hF ?_ ?_<;>intro hF
  ·refine X0 4 rfl ?_
   obtain rfl:=qb hF;replace hF:=hK1
   exact rb h hF rfl
  refine X0 5 rfl ?_
  obtain ⟨o2,hF,hK2⟩:=qc hF
  refine qm (rL (fun m e w'=>∃ (i2:Int),qeo a_1 y1 m i2=some o2∧e=[(2,.pointer (some ⟨bb1,0,none⟩)),(3,.pointer (some ⟨bb2,0,none⟩)),(5,.int .i64 (a_1.Ak.length:Int)),(6,.int .i64 i1),(7,.pointer (some ⟨bb3,0,none⟩)),(8,.int .i64 i2)]∧SH w w' [Ch.box bb3 (qjX y1 p5 k5) 170,Ch.box bb2 (qaS a_1 p2 p3 p4 k2 k3 k4) 48,Ch.box bb1 [.slice p1 a_0.As.length k1] 44]) m1 ⟨_,hF,rfl,h⟩ rfl ?_)
  rintro m2 e2 w6 ⟨i2,hF,rfl,h⟩
  rcases m2 with _|m2
  ·cases hF
  refine X1 9 0 h rfl (qh rfl hF ?_ ?_)<;>intro hF
  ·refine X1 8 0 h rfl ?_
   obtain ⟨y2,hy2,hF,he2,b3,_,q2,cs4,hp2,hq2,rfl,hc5⟩:=s5.ix hF
   refine zxe hp2 hq2 he2 rfl (zc 0 (hc5.below h.below) rfl (zp2 rfl (zcB h hF qai rfl fun r1 w7 h hF=>X0 2 rfl (qh rfl hF ?_ ?_))))<;>intro hF
   ·refine X0 4 rfl ?_
    obtain rfl:=qb hF;replace hF:=hK2
    obtain rfl:=qb hF;replace hF:=hK1
    exact rb h hF rfl
   exact X0 7 rfl (rK ⟨_,hF,rfl,h⟩ rfl)
  refine qq rfl ?_
  obtain rfl:=qb hF;replace hF:=hK2
  refine X0 6 rfl ?_
  replace h:=h.pick [1,2] rfl
  exact rK ⟨_,hF,rfl,h⟩ rfl
 refine qq rfl ?_
 obtain rfl:=qb hF;replace hF:=hK1
 refine X0 5 rfl ?_
 obtain ⟨o4,hF,hK4⟩:=qc hF
 refine qm ?_
 replace h:=h.pick [0] rfl
 refine rL (fun m e w'=>∃ (i3:Int),qep a_1 m i3=some o4∧e=[(3,.pointer (some ⟨bb2,0,none⟩)),(5,.int .i64 (a_1.Ak.length:Int)),(9,.int .i64 i3)]∧SH w w' [Ch.box bb2 (qaS a_1 p2 p3 p4 k2 k3 k4) 48]) n ⟨_,hF,rfl,h⟩ rfl ?_
 rintro m3 e4 w11 ⟨i3,hF,rfl,h⟩
 rcases m3 with _|m3
 ·cases hF
 refine X1 9 0 h rfl (qh rfl hF ?_ ?_)<;>intro hF
 ·refine X1 8 0 h rfl ?_
  obtain ⟨y4,hy4,hF,he4,b5,_,q4,cs6,hp4,hq4,hr6,hc9⟩:=s4.ix hF
  obtain rfl:=qaV hr6
  refine zxe hp4 hq4 he4 rfl (zp1 rfl (zc 1 (hc9.below h.below) rfl (zcB h hF qai rfl fun r3 w12 h hF=>zp2 rfl (qj (t:=78) hF rfl ?_ ?_))))<;>intro hF
  ·refine X0 12 rfl (qb0 rfl rfl (X0 4 rfl ?_))
   obtain rfl:=qb hF;replace hF:=hK4
   exact rb h hF rfl
  refine X1 7 0 h rfl ?_
  obtain ⟨y5,hy5,hF,he5,b6,_,q5,cs7,hp5,hq5,hr8,hc10⟩:=s4.ix hF
  obtain rfl:=qaV hr8
  refine zxe hp5 hq5 he5 rfl (X0 3 rfl (zc 2 (hc10.below h.below) rfl (X0 5 rfl (zcB h hF qai rfl fun r4 w13 h hF=>X0 4 rfl (qh rfl hF ?_ ?_)))))<;>intro hF
  ·refine X0 4 rfl ?_
   obtain rfl:=qb hF;replace hF:=hK4
   exact rb h hF rfl
  exact X0 7 rfl (rK ⟨_,hF,rfl,h⟩ rfl)
 refine qq rfl ?_
 obtain rfl:=qb hF;replace hF:=hK4
 exact X0 4 rfl (rb h hF rfl)
def qev (list:(List ByteArray)) (i1:Int):Nat→Int→Option (Flow Bool Int)
 | 0,_=>none
 | n+1,i2 =>
  bif decide (i2<i1) then
   (idx list i2).bind fun y2 =>
   (idx list i1).bind fun y3 =>
   bif (y2.toList==y3.toList) then some (.ret false) else
   qev list i1 n (W64 (i2+1))
  else
   some (.nxt i2)
def qeA (list:(List ByteArray)):Nat→Int→Option (Flow Bool Int)
 | 0,_=>none
 | n+1,i1 =>
  bif decide (i1<(list.length:Int)) then
   (idx list i1).bind fun y1 =>
   (qf7 n y1).bind fun r1 =>
   bif (!r1) then some (.ret false) else
   (qev list i1 n 0).bind fun o=>match o with
   | .ret r=>some (.ret r)
   | .nxt _ =>
    qeA list n (W64 (i1+1))
  else
   some (.nxt i1)
def qgD (n:Nat) (list:(List ByteArray)):Option Bool :=
 (qeA list n 0).bind fun o=>match o with
 | .ret r=>some r
 | .nxt _ =>
  some true
theorem qjk {list:(List ByteArray)} (ha1:Ro w list cs1) {r:Bool} (hF:qgD n list=some r):RetV Tryz.prog 208 [GoT.v (List ByteArray) cs1] w r:=by
 obtain ⟨p1,k1,rfl,s1⟩:=ha1
 refine zV 31 Tryz.func208 rfl fun h=>X0 9 rfl ?_
 obtain ⟨o1,hF,hK1⟩:=qc hF
 refine qm (rL (fun m e w'=>∃ (i1:Int),qeA list m i1=some o1∧e=[(0,.slice p1 list.length k1),(3,.int .i64 i1)]∧SH w w' []) n ⟨_,hF,rfl,h⟩ rfl ?_)
 rintro m1 e1 w1 ⟨i1,hF,rfl,h⟩
 rcases m1 with _|m1
 ·cases hF
 refine X0 8 rfl (qh rfl hF ?_ ?_)<;>intro hF
 ·refine X0 8 rfl ?_
  obtain ⟨y1,hy1,hF,he1,b1,_,q1,cs2,hp1,hq1,rfl,hc2⟩:=s1.ix hF
  refine zxe hp1 hq1 he1 rfl (zc 0 (hc2.below h.below) rfl (zcB h hF qh1 rfl fun r1 w2 h hF=>X0 2 rfl (qh rfl hF ?_ ?_)))<;>intro hF
  ·refine X0 4 rfl ?_
   obtain rfl:=qb hF;replace hF:=hK1
   exact rb h hF rfl
  refine X0 5 rfl ?_
  obtain ⟨o2,hF,hK2⟩:=qc hF
  refine qm (rL (fun m e w'=>∃ (i2:Int),qev list i1 m i2=some o2∧e=[(0,.slice p1 list.length k1),(3,.int .i64 i1),(4,.int .i64 i2)]∧SH w w' []) m1 ⟨_,hF,rfl,h⟩ rfl ?_)
  rintro m2 e2 w3 ⟨i2,hF,rfl,h⟩
  rcases m2 with _|m2
  ·cases hF
  refine X0 7 rfl (qh rfl hF ?_ ?_)<;>intro hF
  ·refine X0 4 rfl (rD (zd2 rfl ?_))
   obtain ⟨y2,hy2,hF,he2,b2,_,q2,cs3,hp2,hq2,rfl,hc5⟩:=s1.ix hF
   refine zdxe hp2 hq2 he2 rfl (zdc 0 (hc5.below h.below) rfl (zd2 rfl ?_))
   obtain ⟨y3,hy3,hF,he3,b3,_,q3,cs4,hp3,hq3,rfl,hc6⟩:=s1.ix hF
   refine zdxe hp3 hq3 he3 rfl (zdc 0 (hc6.below h.below) rfl (zd1 rfl (dN h fun w4 h=>qh rfl hF ?_ ?_)))<;>intro hF
   ·refine X0 4 rfl ?_
    obtain rfl:=qb hF;replace hF:=hK2
    obtain rfl:=qb hF;replace hF:=hK1
    exact rb h hF rfl
   exact X0 7 rfl (rK ⟨_,hF,rfl,h⟩ rfl)
  refine qq rfl ?_
  obtain rfl:=qb hF;replace hF:=hK2
  exact X0 6 rfl (rK ⟨_,hF,rfl,h⟩ rfl)
 refine qq rfl ?_
 obtain rfl:=qb hF;replace hF:=hK1
 exact X0 4 rfl (rb h hF rfl)
def qeq (x5:(List Int)) (x7:(List Int)):Nat→Int→Option (Flow Bool Int)
 | 0,_=>none
 | n+1,i5 =>
  bif decide (i5<(x5.length:Int)) then
   (idx x7 i5).bind fun y11 =>
   bif (y11 != 1) then some (.ret false) else
   qeq x5 x7 n (W64 (i5+1))
  else
   some (.nxt i5)
def qcA (a_1:qd):Nat→(List Int)→Int→Option ((List Int) × Int)
 | 0,_,_=>none
 | n+1,x7,i4 =>
  bif decide (i4<(a_1.Aj.length:Int)) then
   (idx a_1.Aj i4).bind fun y7 =>
   bif (y7.Bv==1) then
    (idx a_1.Aj i4).bind fun y8 =>
    (idx x7 y8.Bx).bind fun y9 =>
    (idx x7 y8.Bx).bind fun _ =>
    qcA a_1 n (setS x7 y8.Bx (W64 (y9+1))) (W64 (i4+1))
   else
    qcA a_1 n x7 (W64 (i4+1))
  else
   some (x7,i4)
def qdm (a_1:qd):Nat→(List Int)→Int→Option ((List Int) × Int)
 | 0,_,_=>none
 | n+1,x6,i3 =>
  bif decide (i3<(a_1.Aa.length:Int)) then
   (idx a_1.Aa i3).bind fun y3 =>
   (idx y3.Ak (W64 ((y3.Ak.length:Int)-1))).bind fun y4 =>
   (idx x6 y4).bind fun y5 =>
   (idx x6 y4).bind fun _ =>
   qdm a_1 n (setS x6 y4 (W64 (y5+1))) (W64 (i3+1))
  else
   some (x6,i3)
def qdr (a_1:qd):Nat→(List ByteArray)→Int→Option ((List ByteArray) × Int)
 | 0,_,_=>none
 | n+1,x3,i2 =>
  bif decide (i2<(a_1.Aj.length:Int)) then
   (idx a_1.Aj i2).bind fun y2 =>
   (appS x3 ([y2.Bb]:List ByteArray)).bind fun x4 =>
   qdr a_1 n x4 (W64 (i2+1))
  else
   some (x3,i2)
def qdg (a_1:qd):Nat→(List ByteArray)→Int→Option ((List ByteArray) × Int)
 | 0,_,_=>none
 | n+1,x1,i1 =>
  bif decide (i1<(a_1.Aa.length:Int)) then
   (idx a_1.Aa i1).bind fun y1 =>
   (appS x1 ([y1.Bb]:List ByteArray)).bind fun x2 =>
   qdg a_1 n x2 (W64 (i1+1))
  else
   some (x1,i1)
def qjr (n:Nat) (a_0:qn) (a_1:qd):Option Bool :=
 (
  (qiy n a_0).bind fun r4 =>
  bif (!r4) then some true else
  bif decide ((a_1.Aa.length:Int) > 14) then some true else
  bif decide ((a_1.Ak.length:Int) > 30) then some true else
  bif decide ((a_1.Aj.length:Int) > 8) then some true else
  (qjt n a_0 a_1).bind fun r5 =>
  some (!r5)).bind fun b1 =>
 bif b1 then some false else
 (qdg a_1 n ([]:List ByteArray) 0).bind fun o=>match o with
 | (x1,_) =>
  (qdr a_1 n ([]:List ByteArray) 0).bind fun o=>match o with
  | (x3,_) =>
   (
    (qgD n x1).bind fun r1 =>
    bif (!r1) then some true else
    (qgD n x3).bind fun r2 =>
    bif (!r2) then some true else
    (qgD n a_1.Ak).bind fun r3 =>
    some (!r3)).bind fun b4 =>
   bif b4 then some false else
   (mkS (a_1.Ak.length:Int) (0:Int)).bind fun x5 =>
   (qdm a_1 n x5 0).bind fun o=>match o with
   | (x6,_) =>
    (qcA a_1 n x6 0).bind fun o=>match o with
    | (x7,_) =>
     (qeq x5 x7 n 0).bind fun o=>match o with
     | .ret r=>some r
     | .nxt _ =>
      some true
theorem qpX {a_0:qn} {a_1:qd} (ha1:Ro w a_0 cs1) (ha2:Ro w a_1 cs2) {r:Bool} (hF:qjr n a_0 a_1=some r):RetV Tryz.prog 177 [GoT.v qn cs1,GoT.v qd cs2] w r:=by
 obtain ⟨p1,k1,rfl,s1⟩:=qbz ha1
 obtain ⟨p2,k2,p3,k3,p4,k4,rfl,s2,s3,s4⟩:=qay ha2
 refine zV 153 Tryz.func177 rfl fun h=>zSR (qv h rfl rfl fun w1 bb1 h=>qv h rfl rfl fun w2 bb2 h=>X0 4 rfl ?_)
 obtain ⟨KF2,hKF2,o7,hF,hK7⟩:=bindE hF
 refine qbe (fun e w'=>∃ (b1:Bool),KF2 b1=some r∧e=[(3,.pointer (some ⟨bb2,0,none⟩)),(40,.bool b1)]∧SH w w' [Ch.box bb2 (qaS a_1 p2 p3 p4 k2 k3 k4) 48]) ?_ ?_
 ·refine X1 2 1 h rfl (zcB h hF (qpd (h.old ha1)) rfl fun r4 w21 h hF=>zp2 rfl (qj (t:=17) hF rfl ?_ ?_))<;>intro hF
  ·refine X0 24 rfl ?_
   replace h:=h.pick [0] rfl
   obtain rfl:=qb hF
   exact rG ⟨_,hK7,rfl,h⟩ rfl
  refine X1 10 0 h rfl (qj (t:=23) hF rfl ?_ ?_)<;>intro hF
  ·refine X0 18 rfl ?_
   replace h:=h.pick [0] rfl
   obtain rfl:=qb hF
   exact rG ⟨_,hK7,rfl,h⟩ rfl
  refine X1 10 0 h rfl (qj (t:=29) hF rfl ?_ ?_)<;>intro hF
  ·refine X0 12 rfl ?_
   replace h:=h.pick [0] rfl
   obtain rfl:=qb hF
   exact rG ⟨_,hK7,rfl,h⟩ rfl
  refine X1 10 0 h rfl (qj (t:=35) hF rfl ?_ ?_)<;>intro hF
  ·refine X0 6 rfl ?_
   replace h:=h.pick [0] rfl
   obtain rfl:=qb hF
   exact rG ⟨_,hK7,rfl,h⟩ rfl
  refine X2 5 1 0 h rfl (zcB h hF (qpP (h.old ha1) (h.old ha2)) rfl fun r5 w22 h hF=>X0 4 rfl ?_)
  replace h:=h.pick [0] rfl
  obtain rfl:=qb hF
  exact rG ⟨_,hK7,rfl,h⟩ rfl
 rintro e7 w23 ⟨b1,hF,rfl,h⟩
 subst hKF2
 refine qh rfl hF ?_ ?_<;>intro hF
 ·exact X0 4 rfl (rb h hF rfl)
 refine zKSR (qL qa [] _ ([]:List ByteArray) h rfl rfl rfl rfl rfl rfl rfl rfl rfl trivial rfl fun w3 p5 S1 h=>X0 7 rfl ?_)
 obtain ⟨o1,hF,hK1⟩:=qc hF
 refine qm (rL (fun m e w'=>∃ (S2:Nat→Prop) (p6:Option Addr) (ln1:Nat) (k5:Nat) (x1:(List ByteArray)) (i1:Int),qdg a_1 m x1 i1=some o1∧e=[(3,.pointer (some ⟨bb2,0,none⟩)),(5,.slice p6 ln1 k5),(6,.int .i64 i1)]∧SH w w' [Ch.own S2 (x1:List ByteArray) [.slice p6 ln1 k5],Ch.box bb2 (qaS a_1 p2 p3 p4 k2 k3 k4) 48]) n ⟨_,_,_,_,_,_,hF,rfl,h⟩ rfl ?_)
 rintro m1 e1 w4 ⟨S2,p6,ln1,k5,x1,i1,hF,rfl,h⟩
 obtain rfl:=(h.sl 0 rfl).2
 rcases m1 with _|m1
 ·cases hF
 refine X1 9 1 h rfl (qh rfl hF ?_ ?_)<;>intro hF
 ·refine X1 8 1 h rfl ?_
  obtain ⟨y1,hy1,hF,he1,b2,_,q1,cs3,hp1,hq1,hr1,hc3⟩:=s2.ix hF
  obtain ⟨p7,k6,rfl,s5⟩:=qP hr1
  refine zxe hp1 hq1 he1 rfl (zp1 rfl (zc 0 (hc3.below h.below) rfl (qL qa [.tmp 55] _ ([y1.Bb]:List ByteArray) h rfl rfl rfl rfl rfl rfl rfl rfl rfl ⟨rfl,trivial⟩ rfl fun w5 p8 S3 h=>?_)))
  obtain ⟨x2,hx1,hF⟩:=qc hF
  obtain ⟨g1,hx1⟩:=qaw hx1
  refine qcC qa 1 h rfl (h.sl 0 rfl).1 (h.sl 0 rfl).2 rfl rfl rfl rfl rfl rfl rfl rfl rfl g1 hx1 rfl fun w6 p9 k7 S4 h=>X0 8 rfl ?_
  replace h:=h.pick [1,2] rfl
  exact rK ⟨_,_,_,_,_,_,hF,rfl,h⟩ rfl
 refine qq rfl ?_
 obtain rfl:=qb hF;replace hF:=hK1
 refine zSR (qL qa [] _ ([]:List ByteArray) h rfl rfl rfl rfl rfl rfl rfl rfl rfl trivial rfl fun w7 p10 S5 h=>X0 7 rfl ?_)
 obtain ⟨o2,hF,hK2⟩:=qc hF
 refine qm (rL (fun m e w'=>∃ (S6:Nat→Prop) (p11:Option Addr) (ln2:Nat) (k8:Nat) (x3:(List ByteArray)) (i2:Int),qdr a_1 m x3 i2=some o2∧e=[(3,.pointer (some ⟨bb2,0,none⟩)),(5,.slice p6 x1.length k5),(7,.slice p11 ln2 k8),(8,.int .i64 i2)]∧SH w w' [Ch.own S6 (x3:List ByteArray) [.slice p11 ln2 k8],Ch.own S2 (x1:List ByteArray) [.slice p6 x1.length k5],Ch.box bb2 (qaS a_1 p2 p3 p4 k2 k3 k4) 48]) n ⟨_,_,_,_,_,_,hF,rfl,h⟩ rfl ?_)
 rintro m2 e2 w8 ⟨S6,p11,ln2,k8,x3,i2,hF,rfl,h⟩
 obtain rfl:=(h.sl 0 rfl).2
 rcases m2 with _|m2
 ·cases hF
 refine X1 9 2 h rfl (qh rfl hF ?_ ?_)<;>intro hF
 ·refine X1 8 2 h rfl ?_
  obtain ⟨y2,hy2,hF,he2,b3,_,q2,cs4,hp2,hq2,hr2,hc5⟩:=s4.ix hF
  obtain rfl:=qaV hr2
  refine zxe hp2 hq2 he2 rfl (zp1 rfl (zc 0 (hc5.below h.below) rfl (qL qa [.tmp 72] _ ([y2.Bb]:List ByteArray) h rfl rfl rfl rfl rfl rfl rfl rfl rfl ⟨rfl,trivial⟩ rfl fun w9 p12 S7 h=>?_)))
  obtain ⟨x4,hx2,hF⟩:=qc hF
  obtain ⟨g2,hx2⟩:=qaw hx2
  refine qcC qa 1 h rfl (h.sl 0 rfl).1 (h.sl 0 rfl).2 rfl rfl rfl rfl rfl rfl rfl rfl rfl g2 hx2 rfl fun w10 p13 k9 S8 h=>X0 8 rfl ?_
  replace h:=h.pick [1,2,3] rfl
  exact rK ⟨_,_,_,_,_,_,hF,rfl,h⟩ rfl
 refine qq rfl ?_
 obtain rfl:=qb hF;replace hF:=hK2
 refine zSS ?_
 obtain ⟨KF1,hKF1,o6,hF,hK6⟩:=bindE hF
 refine qbe (fun e w'=>∃ (b4:Bool),KF1 b4=some r∧e=[(3,.pointer (some ⟨bb2,0,none⟩)),(88,.bool b4)]∧SH w w' [Ch.box bb2 (qaS a_1 p2 p3 p4 k2 k3 k4) 48]) ?_ ?_
 ·refine X0 2 rfl (zcB h hF (qjk (h.own 1 rfl)) rfl fun r1 w17 h hF=>zp2 rfl (qj (t:=78) hF rfl ?_ ?_))<;>intro hF
  ·refine X0 11 rfl ?_
   replace h:=h.pick [2] rfl
   obtain rfl:=qb hF
   exact rG ⟨_,hK6,rfl,h⟩ rfl
  refine X0 3 rfl (zcB h hF (qjk (h.own 0 rfl)) rfl fun r2 w18 h hF=>X0 4 rfl (qj (t:=83) hF rfl ?_ ?_))<;>intro hF
  ·refine X0 6 rfl ?_
   replace h:=h.pick [2] rfl
   obtain rfl:=qb hF
   exact rG ⟨_,hK6,rfl,h⟩ rfl
  refine X1 5 2 h rfl (zcB h hF (qjk ⟨_,_,rfl,(h.oldS s3)⟩) rfl fun r3 w19 h hF=>X0 4 rfl ?_)
  replace h:=h.pick [2] rfl
  obtain rfl:=qb hF
  exact rG ⟨_,hK6,rfl,h⟩ rfl
 rintro e6 w20 ⟨b4,hF,rfl,h⟩
 subst hKF1
 refine qh rfl hF ?_ ?_<;>intro hF
 ·exact X0 4 rfl (rb h hF rfl)
 refine X1 6 0 h rfl ?_
 obtain ⟨x5,hx3,hF⟩:=qc hF
 obtain ⟨g3,g4,hx3⟩:=qU hx3
 refine qam qa Int h rfl rfl rfl rfl rfl rfl rfl rfl rfl g3 g4 hx3 rfl fun w11 S9 p14 h=>X0 7 rfl ?_
 obtain ⟨o3,hF,hK3⟩:=qc hF
 refine qm (rL (fun m e w'=>∃ (x6:(List Int)) (i3:Int),qdm a_1 m x6 i3=some o3∧e=[(3,.pointer (some ⟨bb2,0,none⟩)),(9,.slice p14 x5.length x5.length),(10,.int .i64 i3)]∧SH w w' [Ch.own S9 (x6:List Int) [.slice p14 x5.length x5.length],Ch.box bb2 (qaS a_1 p2 p3 p4 k2 k3 k4) 48]) n ⟨_,_,hF,rfl,h⟩ rfl ?_)
 rintro m3 e3 w12 ⟨x6,i3,hF,rfl,h⟩
 rcases m3 with _|m3
 ·cases hF
 refine X1 9 1 h rfl (qh rfl hF ?_ ?_)<;>intro hF
 ·refine X1 8 1 h rfl ?_
  obtain ⟨y3,hy3,hF,he3,b5,_,q3,cs5,hp3,hq3,hr3,hc8⟩:=s2.ix hF
  obtain ⟨p15,k10,rfl,s6⟩:=qP hr3
  refine zxe hp3 hq3 he3 rfl (zp1 rfl (zc 2 (hc8.below h.below) rfl (X0 8 rfl ?_)))
  obtain ⟨y4,hy4,hF,he4,b6,_,q4,cs6,hp4,hq4,rfl,hc9⟩:=s6.ix hF
  refine zxe hp4 hq4 he4 rfl (zc 0 (hc9.below h.below) rfl ?_)
  obtain ⟨y5,hy5,hF,he5,b7,_,q5,cs7,hp5,hq5,rfl,hc10⟩:=(h.sl 0 rfl).1.ix hF
  refine zx hp5 hq5 ⟨he5.1,qC he5.2.1 (h.sl 0 rfl).2⟩ rfl (zc 0 hc10 rfl (zp1 rfl ?_))
  obtain ⟨y6,hy6,hF,he6,b8,_,q6,cs8,hp6,hq6,rfl,hc11⟩:=(h.sl 0 rfl).1.ix hF
  exact zx hp6 hq6 ⟨he6.1,qC he6.2.1 (h.sl 0 rfl).2⟩ rfl (qaA qa 0 0 (W64 (y5+1)) h rfl hy6 hp6 hq6 rfl hc11 rfl rfl rfl rfl rfl rfl rfl fun w13 h=>X0 7 rfl (rK ⟨_,_,hF,rfl,h⟩ rfl))
 refine qq rfl ?_
 obtain rfl:=qb hF;replace hF:=hK3
 refine X0 5 rfl ?_
 obtain ⟨o4,hF,hK4⟩:=qc hF
 refine qm (rL (fun m e w'=>∃ (x7:(List Int)) (i4:Int),qcA a_1 m x7 i4=some o4∧e=[(3,.pointer (some ⟨bb2,0,none⟩)),(9,.slice p14 x5.length x5.length),(12,.int .i64 i4)]∧SH w w' [Ch.own S9 (x7:List Int) [.slice p14 x5.length x5.length],Ch.box bb2 (qaS a_1 p2 p3 p4 k2 k3 k4) 48]) n ⟨_,_,hF,rfl,h⟩ rfl ?_)
 rintro m4 e4 w14 ⟨x7,i4,hF,rfl,h⟩
 rcases m4 with _|m4
 ·cases hF
 refine X1 9 1 h rfl (qh rfl hF ?_ ?_)<;>intro hF
 ·refine X1 8 1 h rfl ?_
  obtain ⟨y7,hy7,hF,he7,b9,_,q7,cs9,hp7,hq7,hr7,hc13⟩:=s4.ix hF
  obtain rfl:=qaV hr7
  refine zxe hp7 hq7 he7 rfl (zp1 rfl (zc 1 (hc13.below h.below) rfl (X0 2 rfl (qh rfl hF ?_ ?_))))<;>intro hF
  ·refine X1 5 1 h rfl ?_
   obtain ⟨y8,hy8,hF,he8,b10,_,q8,cs10,hp8,hq8,hr8,hc15⟩:=s4.ix hF
   obtain rfl:=qaV hr8
   refine zxe hp8 hq8 he8 rfl (zp1 rfl (zc 2 (hc15.below h.below) rfl ?_))
   obtain ⟨y9,hy9,hF,he9,b11,_,q9,cs11,hp9,hq9,rfl,hc16⟩:=(h.sl 0 rfl).1.ix hF
   refine zx hp9 hq9 ⟨he9.1,qC he9.2.1 (h.sl 0 rfl).2⟩ rfl (zc 0 hc16 rfl (zp1 rfl ?_))
   obtain ⟨y10,hy10,hF,he10,b12,_,q10,cs12,hp10,hq10,rfl,hc17⟩:=(h.sl 0 rfl).1.ix hF
   exact zx hp10 hq10 ⟨he10.1,qC he10.2.1 (h.sl 0 rfl).2⟩ rfl (qaA qa 0 0 (W64 (y9+1)) h rfl hy10 hp10 hq10 rfl hc17 rfl rfl rfl rfl rfl rfl rfl fun w15 h=>X0 7 rfl (rK ⟨_,_,hF,rfl,h⟩ rfl))
  exact X0 7 rfl (rK ⟨_,_,hF,rfl,h⟩ rfl)
 refine qq rfl ?_
 obtain rfl:=qb hF;replace hF:=hK4
 refine X0 5 rfl ?_
 obtain ⟨o5,hF,hK5⟩:=qc hF
 refine qm ?_
 replace h:=h.pick [0] rfl
 refine rL (fun m e w'=>∃ (i5:Int),qeq x5 x7 m i5=some o5∧e=[(9,.slice p14 x5.length x5.length),(13,.int .i64 i5)]∧SH w w' [Ch.own S9 (x7:List Int) [.slice p14 x5.length x5.length]]) n ⟨_,hF,rfl,h⟩ rfl ?_
 rintro m5 e5 w16 ⟨i5,hF,rfl,h⟩
 rcases m5 with _|m5
 ·cases hF
 refine X0 8 rfl (qh rfl hF ?_ ?_)<;>intro hF
 ·refine X0 7 rfl ?_
  obtain ⟨y11,hy11,hF,he11,b13,_,q11,cs13,hp11,hq11,rfl,hc19⟩:=(h.sl 0 rfl).1.ix hF
  refine zx hp11 hq11 ⟨he11.1,qC he11.2.1 (h.sl 0 rfl).2⟩ rfl (zc 0 hc19 rfl (X0 2 rfl (qh rfl hF ?_ ?_)))<;>intro hF
  ·refine X0 4 rfl ?_
   obtain rfl:=qb hF;replace hF:=hK5
   exact rb h hF rfl
  exact X0 7 rfl (rK ⟨_,hF,rfl,h⟩ rfl)
 refine qq rfl ?_
 obtain rfl:=qb hF;replace hF:=hK5
 exact X0 4 rfl (rb h hF rfl)
def qfJ (a_0:qD):Nat→Int→Option (Flow Bool Int)
 | 0,_=>none
 | n+1,i2 =>
  bif decide (i2<(a_0.Bl.length:Int)) then
   (idx a_0.Bl i2).bind fun y7 =>
   (qau n y7 0 (W64 ((a_0.Am.length:Int)-1))).bind fun r5 =>
   bif (!r5) then some (.ret false) else
   qfJ a_0 n (W64 (i2+1))
  else
   some (.nxt i2)
def qcQ (a_0:qD):Nat→Int→Option (Flow Bool Int)
 | 0,_=>none
 | n+1,i1 =>
  bif decide (i1<(a_0.Am.length:Int)) then
   (
    (idx a_0.Bs i1).bind fun y5 =>
    (qau n y5 0 500).bind fun r3 =>
    bif (!r3) then some true else
    (idx a_0.Bw i1).bind fun y6 =>
    (qau n y6 0 1000).bind fun r4 =>
    some (!r4)).bind fun b2 =>
   bif b2 then some (.ret false) else
   bif (i1==0) then
    (idx a_0.Am i1).bind fun y1 =>
    bif (y1 != (-1)) then some (.ret false) else
    (idx a_0.Bw i1).bind fun y2 =>
    bif (y2 != 0) then some (.ret false) else
    bif decide (i1 > 0) then
     (idx a_0.Am i1).bind fun y3 =>
     (qau n y3 0 (W64 (i1-1))).bind fun r1 =>
     bif (!r1) then some (.ret false) else
     qcQ a_0 n (W64 (i1+1))
    else
     qcQ a_0 n (W64 (i1+1))
   else
    bif decide (i1 > 0) then
     (idx a_0.Am i1).bind fun y4 =>
     (qau n y4 0 (W64 (i1-1))).bind fun r2 =>
     bif (!r2) then some (.ret false) else
     qcQ a_0 n (W64 (i1+1))
    else
     qcQ a_0 n (W64 (i1+1))
  else
   some (.nxt i1)
def qln (n:Nat) (a_0:qD) (a_1:Int):Option Bool :=
 (
  bif decide ((a_0.Am.length:Int)<1) then some true else
  bif decide ((a_0.Am.length:Int) > 8) then some true else
  bif ((a_0.Bw.length:Int) != (a_0.Am.length:Int)) then some true else
  bif ((a_0.Bs.length:Int) != (a_0.Am.length:Int)) then some true else
  some ((a_0.Bl.length:Int) != a_1)).bind fun b1 =>
 bif b1 then some false else
 (qcQ a_0 n 0).bind fun o=>match o with
 | .ret r=>some r
 | .nxt _ =>
  (qfJ a_0 n 0).bind fun o=>match o with
  | .ret r=>some r
  | .nxt _ =>
   some true
theorem qrc {a_0:qD} {a_1:Int} (ha1:Ro w a_0 cs1) {r:Bool} (hF:qln n a_0 a_1=some r):RetV Tryz.prog 178 [GoT.v qD cs1,.int .i64 a_1] w r:=by
 obtain ⟨p1,k1,p2,k2,p3,k3,p4,k4,rfl,s1,s2,s3,s4⟩:=qaN ha1
 refine zV 108 Tryz.func178 rfl fun h=>zSR (qv h rfl rfl fun w1 bb1 h=>X1 11 0 h rfl ?_)
 obtain ⟨KF2,hKF2,o4,hF,hK4⟩:=bindE hF
 refine qbe (fun e w'=>∃ (b1:Bool),KF2 b1=some r∧e=[(2,.pointer (some ⟨bb1,0,none⟩)),(5,.int .i64 (a_0.Am.length:Int)),(37,.bool b1)]∧SH w w' [Ch.box bb1 (qgI a_0 p1 p2 p3 p4 k1 k2 k3 k4) 186]) ?_ ?_
 ·refine X0 4 rfl (qj (t:=13) hF rfl ?_ ?_)<;>intro hF
  ·refine X0 25 rfl ?_
   obtain rfl:=qb hF
   exact rG ⟨_,hK4,rfl,h⟩ rfl
  refine X0 6 rfl (qj (t:=17) hF rfl ?_ ?_)<;>intro hF
  ·refine X0 21 rfl ?_
   obtain rfl:=qb hF
   exact rG ⟨_,hK4,rfl,h⟩ rfl
  refine X1 12 0 h rfl (qj (t:=24) hF rfl ?_ ?_)<;>intro hF
  ·refine X0 14 rfl ?_
   obtain rfl:=qb hF
   exact rG ⟨_,hK4,rfl,h⟩ rfl
  refine X1 12 0 h rfl (qj (t:=31) hF rfl ?_ ?_)<;>intro hF
  ·refine X0 7 rfl ?_
   obtain rfl:=qb hF
   exact rG ⟨_,hK4,rfl,h⟩ rfl
  refine X1 12 0 h rfl ?_
  obtain rfl:=qb hF
  exact rG ⟨_,hK4,rfl,h⟩ rfl
 rintro e4 w10 ⟨b1,hF,rfl,h⟩
 subst hKF2
 refine qh rfl hF ?_ ?_<;>intro hF
 ·exact X0 4 rfl (rb h hF rfl)
 refine X0 6 rfl ?_
 obtain ⟨o1,hF,hK1⟩:=qc hF
 refine qm (rL (fun m e w'=>∃ (i1:Int),qcQ a_0 m i1=some o1∧e=[(2,.pointer (some ⟨bb1,0,none⟩)),(5,.int .i64 (a_0.Am.length:Int)),(6,.int .i64 i1)]∧SH w w' [Ch.box bb1 (qgI a_0 p1 p2 p3 p4 k1 k2 k3 k4) 186]) n ⟨_,hF,rfl,h⟩ rfl ?_)
 rintro m1 e1 w2 ⟨i1,hF,rfl,h⟩
 rcases m1 with _|m1
 ·cases hF
 refine X0 7 rfl (qh rfl hF ?_ ?_)<;>intro hF
 ·refine X0 5 rfl ?_
  obtain ⟨KF1,hKF1,o2,hF,hK2⟩:=bindE hF
  refine qbe (fun e w'=>∃ (b2:Bool),KF1 b2=some o1∧e=[(2,.pointer (some ⟨bb1,0,none⟩)),(5,.int .i64 (a_0.Am.length:Int)),(6,.int .i64 i1),(58,.bool b2)]∧SH w w' [Ch.box bb1 (qgI a_0 p1 p2 p3 p4 k1 k2 k3 k4) 186]) ?_ ?_
  ·refine X1 4 0 h rfl ?_
   obtain ⟨y5,hy5,hF,he5,b7,_,q5,cs6,hp5,hq5,rfl,hc10⟩:=s3.ix hF
   refine zxe hp5 hq5 he5 rfl (zc 0 (hc10.below h.below) rfl (zcB h hF qai rfl fun r3 w5 h hF=>zp2 rfl (qj (t:=50) hF rfl ?_ ?_)))<;>intro hF
   ·refine X0 9 rfl ?_
    obtain rfl:=qb hF
    exact rG ⟨_,hK2,rfl,h⟩ rfl
   refine X1 7 0 h rfl ?_
   obtain ⟨y6,hy6,hF,he6,b8,_,q6,cs7,hp6,hq6,rfl,hc11⟩:=s2.ix hF
   refine zxe hp6 hq6 he6 rfl (X0 1 rfl (zc 0 (hc11.below h.below) rfl (X0 1 rfl (zcB h hF qai rfl fun r4 w6 h hF=>X0 4 rfl ?_))))
   obtain rfl:=qb hF
   exact rG ⟨_,hK2,rfl,h⟩ rfl
  rintro e2 w7 ⟨b2,hF,rfl,h⟩
  subst hKF1
  refine qh rfl hF ?_ ?_<;>intro hF
  ·refine X0 4 rfl ?_
   obtain rfl:=qb hF;replace hF:=hK1
   exact rb h hF rfl
  refine X0 6 rfl (qj (t:=61) hF rfl ?_ ?_)<;>intro hF
  ·refine X1 7 0 h rfl ?_
   obtain ⟨y1,hy1,hF,he1,b3,_,q1,cs2,hp1,hq1,rfl,hc4⟩:=s1.ix hF
   refine zxe hp1 hq1 he1 rfl (X0 1 rfl (zc 0 (hc4.below h.below) rfl (X0 4 rfl (qj (t:=68) hF rfl ?_ ?_))))<;>intro hF
   ·refine X0 25 rfl (qb0 rfl rfl (X0 4 rfl ?_))
    obtain rfl:=qb hF;replace hF:=hK1
    exact rb h hF rfl
   refine X1 7 0 h rfl ?_
   obtain ⟨y2,hy2,hF,he2,b4,_,q2,cs3,hp2,hq2,rfl,hc5⟩:=s2.ix hF
   refine zxe hp2 hq2 he2 rfl (X0 1 rfl (zc 0 (hc5.below h.below) rfl (X0 6 rfl (qj (t:=77) hF rfl ?_ ?_))))<;>intro hF
   ·refine X0 15 rfl (qb0 rfl rfl (X0 4 rfl ?_))
    obtain rfl:=qb hF;replace hF:=hK1
    exact rb h hF rfl
   refine X0 6 rfl (qj (t:=80) hF rfl ?_ ?_)<;>intro hF
   ·refine X1 7 0 h rfl ?_
    obtain ⟨y3,hy3,hF,he3,b5,_,q3,cs4,hp3,hq3,rfl,hc6⟩:=s1.ix hF
    refine zxe hp3 hq3 he3 rfl (X0 1 rfl (zc 0 (hc6.below h.below) rfl (X0 5 rfl (zcB h hF qai rfl fun r1 w3 h hF=>X0 6 rfl (qh rfl hF ?_ ?_)))))<;>intro hF
    ·refine X0 4 rfl ?_
     obtain rfl:=qb hF;replace hF:=hK1
     exact rb h hF rfl
    exact X0 7 rfl (rK ⟨_,hF,rfl,h⟩ rfl)
   exact X0 13 rfl (qbW rfl rfl (X0 7 rfl (rK ⟨_,hF,rfl,h⟩ rfl)))
  refine X0 22 rfl (qj (t:=80) hF rfl ?_ ?_)<;>intro hF
  ·refine X1 7 0 h rfl ?_
   obtain ⟨y4,hy4,hF,he4,b6,_,q4,cs5,hp4,hq4,rfl,hc8⟩:=s1.ix hF
   refine zxe hp4 hq4 he4 rfl (X0 1 rfl (zc 0 (hc8.below h.below) rfl (X0 5 rfl (zcB h hF qai rfl fun r2 w4 h hF=>X0 6 rfl (qh rfl hF ?_ ?_)))))<;>intro hF
   ·refine X0 4 rfl ?_
    obtain rfl:=qb hF;replace hF:=hK1
    exact rb h hF rfl
   exact X0 7 rfl (rK ⟨_,hF,rfl,h⟩ rfl)
  exact X0 13 rfl (qbW rfl rfl (X0 7 rfl (rK ⟨_,hF,rfl,h⟩ rfl)))
 refine qq rfl ?_
 obtain rfl:=qb hF;replace hF:=hK1
 refine X0 5 rfl ?_
 obtain ⟨o3,hF,hK3⟩:=qc hF
 refine qm (rL (fun m e w'=>∃ (i2:Int),qfJ a_0 m i2=some o3∧e=[(2,.pointer (some ⟨bb1,0,none⟩)),(5,.int .i64 (a_0.Am.length:Int)),(7,.int .i64 i2)]∧SH w w' [Ch.box bb1 (qgI a_0 p1 p2 p3 p4 k1 k2 k3 k4) 186]) n ⟨_,hF,rfl,h⟩ rfl ?_)
 rintro m2 e3 w8 ⟨i2,hF,rfl,h⟩
 rcases m2 with _|m2
 ·cases hF
 refine X1 9 0 h rfl (qh rfl hF ?_ ?_)<;>intro hF
 ·refine X1 8 0 h rfl ?_
  obtain ⟨y7,hy7,hF,he7,b9,_,q7,cs8,hp7,hq7,rfl,hc13⟩:=s4.ix hF
  refine zxe hp7 hq7 he7 rfl (zc 0 (hc13.below h.below) rfl (zp2 rfl (zcB h hF qai rfl fun r5 w9 h hF=>X0 2 rfl (qh rfl hF ?_ ?_))))<;>intro hF
  ·refine X0 4 rfl ?_
   obtain rfl:=qb hF;replace hF:=hK3
   exact rb h hF rfl
  exact X0 7 rfl (rK ⟨_,hF,rfl,h⟩ rfl)
 refine qq rfl ?_
 obtain rfl:=qb hF;replace hF:=hK3
 exact X0 4 rfl (rb h hF rfl)
def qe1 (b:qg):Nat→Int→Option (Flow Bool Int)
 | 0,_=>none
 | n+1,i1 =>
  bif decide (i1<(b.Ac.length:Int)) then
   (idx b.Ac i1).bind fun y1 =>
   (qgC n (⟨b.Ab.Aa,b.Ab.Ak,b.Ab.Aj⟩:qd) i1).bind fun r1 =>
   (qln n y1 (r1.length:Int)).bind fun r2 =>
   bif (!r2) then some (.ret false) else
   qe1 b n (W64 (i1+1))
  else
   some (.nxt i1)
def qhx (n:Nat) (b:qg):Option Bool :=
 (
  (qjr n (⟨b.Av.As⟩:qn) (⟨b.Ab.Aa,b.Ab.Ak,b.Ab.Aj⟩:qd)).bind fun r3 =>
  bif (!r3) then some true else
  some ((b.Ac.length:Int) != (b.Ab.Ak.length:Int))).bind fun b1 =>
 bif b1 then some false else
 (qe1 b n 0).bind fun o=>match o with
 | .ret r=>some r
 | .nxt _ =>
  some true
theorem qmY {b:qg} (ha1:Ro w b cs1) {r:Bool} (hF:qhx n b=some r):RetV Tryz.prog 143 [GoT.v qg cs1] w r:=by
 obtain ⟨p1,k1,p2,k2,p3,k3,p4,k4,p5,k5,rfl,s1,s2,s3,s4,s5⟩:=qac ha1
 refine zV 39 Tryz.func143 rfl fun h=>zSR (qv h rfl rfl fun w1 bb1 h=>X0 4 rfl ?_)
 obtain ⟨KF1,hKF1,o2,hF,hK2⟩:=bindE hF
 refine qbe (fun e w'=>∃ (b1:Bool),KF1 b1=some r∧e=[(1,.pointer (some ⟨bb1,0,none⟩)),(19,.bool b1)]∧SH w w' [Ch.box bb1 (qa1 b p1 p2 p3 p4 p5 k1 k2 k3 k4 k5) 51]) ?_ ?_
 ·refine X2 5 0 0 h rfl (zcB h hF (qpX (qd9 _ (h.oldS s1)) (qar _ (h.oldS s2) (h.oldS s3) (h.oldS s4))) rfl fun r3 w6 h hF=>zp2 rfl (qj (t:=10) hF rfl ?_ ?_))<;>intro hF
  ·refine X0 10 rfl ?_
   obtain rfl:=qb hF
   exact rG ⟨_,hK2,rfl,h⟩ rfl
  refine X2 18 0 0 h rfl ?_
  obtain rfl:=qb hF
  exact rG ⟨_,hK2,rfl,h⟩ rfl
 rintro e2 w7 ⟨b1,hF,rfl,h⟩
 subst hKF1
 refine qh rfl hF ?_ ?_<;>intro hF
 ·exact X0 4 rfl (rb h hF rfl)
 refine X0 6 rfl ?_
 obtain ⟨o1,hF,hK1⟩:=qc hF
 refine qm (rL (fun m e w'=>∃ (i1:Int),qe1 b m i1=some o1∧e=[(1,.pointer (some ⟨bb1,0,none⟩)),(3,.int .i64 i1)]∧SH w w' [Ch.box bb1 (qa1 b p1 p2 p3 p4 p5 k1 k2 k3 k4 k5) 51]) n ⟨_,hF,rfl,h⟩ rfl ?_)
 rintro m1 e1 w2 ⟨i1,hF,rfl,h⟩
 rcases m1 with _|m1
 ·cases hF
 refine X1 9 0 h rfl (qh rfl hF ?_ ?_)<;>intro hF
 ·refine X0 4 rfl (rA [] [0] h rfl fun w3 h=>M1 7 [0,1,2] 0 (h.pick [0] rfl) rfl ?_)
  obtain ⟨y1,hy1,hF,he1,b2,_,q1,cs2,hp1,hq1,hr1,hc3⟩:=s5.ix hF
  obtain ⟨p6,k6,p7,k7,p8,k8,p9,k9,rfl,s6,s7,s8,s9⟩:=qaN hr1
  refine Ae 3 15 hp1 hq1 he1 (h.pick [0] rfl) rfl (Al 4 31 0 hc3 (h.pick [0] rfl) rfl (M1 255 [5,6,7] 0 (h.pick [0] rfl) rfl (Ao 8 511 rfl (zcL h hF (qi9 (qar _ (h.oldS s2) (h.oldS s3) (h.oldS s4))) rfl fun r1 w4 S1 p10 k10 h hF=>G0 1023 [9] (h.pick [1] rfl) rfl (Ao 10 2047 rfl (zcB h hF (qrc (qkC y1 (h.oldS s6) (h.oldS s7) (h.oldS s8) (h.oldS s9))) rfl fun r2 w5 h hF=>G0 4095 [11] (h.pick [1] rfl) rfl (Ad (qh rfl hF ?_ ?_))))))))<;>intro hF
  ·refine X0 4 rfl ?_
   obtain rfl:=qb hF;replace hF:=hK1
   exact rb h hF rfl
  refine X0 7 rfl ?_
  replace h:=h.pick [1] rfl
  exact rK ⟨_,hF,rfl,h⟩ rfl
 refine qq rfl ?_
 obtain rfl:=qb hF;replace hF:=hK1
 exact X0 4 rfl (rb h hF rfl)
def qaR (_:Nat) (x:Int) (low:Int) (high:Int):Option Bool :=
 bif decide (x ≥ low) then some (decide (x≤high)) else
 some false
theorem qaz {x:Int} {low:Int} {high:Int}  {r:Bool} (hF:qaR n x low high=some r):RetV Tryz.prog 159 [.int .i64 x,.int .i64 low,.int .i64 high] w r:=by
 refine zV 15 Tryz.func159 rfl fun h=>X0 10 rfl (qj (t:=10) hF rfl ?_ ?_)<;>intro hF
 ·exact X0 9 rfl (rb h hF rfl)
 exact X0 6 rfl (rb h hF rfl)
def qiQ (_:Nat) (s cutset:ByteArray):Option ByteArray :=
 if s.size≤9223372036854775807∧cutset.size<4294967281∧cutset.data.toList.all (fun b=>decide (b.toNat<128))=true then some ⟨(Lib.trimS s.data.toList cutset.data.toList).toArray⟩ else none
theorem qqI {s cutset:ByteArray} {r:ByteArray} (hF:qiQ n s cutset=some r):RetV Tryz.prog 246 [.string s,.string cutset] w r:=by
 unfold qiQ at hF
 split at hF
 ·rename_i hh
  obtain rfl:=qb hF
  refine (Tryz.strings_Trim_any s cutset w hh.1 hh.2.1 hh.2.2).mono ?_
  rintro e w' ⟨rfl,hB⟩
  exact ⟨_,rfl,hB,[.string _],rfl,qu9 _ _⟩
 cases hF
def qgJ (_:Nat) (s:ByteArray) (c:(IntK .u8)):Option Int :=
 some (Lib.indexByte s.data.toList c.val.toNat.toUInt8)
theorem qng {s:ByteArray} {c:(IntK .u8)} {r:Int} (hF:qgJ n s c=some r):RetV Tryz.prog 247 [.string s,.int .u8 c.val] w r:=by
 obtain rfl:=qb hF
 refine (Tryz.strings_IndexByte s c.val w).mono ?_
 rintro e w' ⟨rfl,rfl⟩
 exact ⟨_,rfl,Below.refl _ _,[.int .i64 _],rfl,qxb _ _⟩
def qik (n:Nat) (s:ByteArray):Option Bool :=
 (qaR n (s.size:Int) 1 8).bind fun r1 =>
 bif r1 then
  (qiQ n s (⟨#[97,98,99,100,101,102,103,104,105,106,107,108,109,110,111,112,113,114,115,116,117,118,119,120,121,122,48,49,50,51,52,53,54,55,56,57]⟩:ByteArray)).bind fun r2 =>
  bif (r2.toList==(⟨#[]⟩:ByteArray).toList) then
   (atS s 0).bind fun y1 =>
   (qgJ n (⟨#[97,98,99,100,101,102,103,104,105,106,107,108,109,110,111,112,113,114,115,116,117,118,119,120,121,122]⟩:ByteArray) (⟨y1⟩:IntK .u8)).bind fun r3 =>
   some (decide (r3 ≥ 0))
  else
   some false
 else
  some false
theorem qkM {s:ByteArray}  {r:Bool} (hF:qik n s=some r):RetV Tryz.prog 214 [.string s] w r:=by
 refine zV 17 Tryz.func214 rfl fun h=>X0 8 rfl (zcB h hF qaz rfl fun r1 w1 h hF=>zp1 rfl (qj (t:=6) hF rfl ?_ ?_))<;>intro hF
 ·refine X0 3 rfl (zcS h hF qqI rfl fun r2 w2 h hF=>X0 4 rfl (qj (t:=11) hF rfl ?_ ?_))<;>intro hF
  ·refine X0 3 rfl ?_
   obtain ⟨y1,hx1,hF⟩:=qc hF
   have g1:=qnp hx1
   exact r_v (qne qa g1 rfl rfl rfl rfl) rfl (X0 1 rfl (zcI h hF qng rfl fun r3 w3 h hF=>X0 5 rfl (rb h hF rfl)))
  exact X0 7 rfl (rb h hF rfl)
 exact X0 12 rfl (rb h hF rfl)
def qbV (s:(List ByteArray)) (v:ByteArray):Nat→Int→Option (Flow Int Int)
 | 0,_=>none
 | n+1,i1 =>
  bif decide (i1<(s.length:Int)) then
   (idx s i1).bind fun y1 =>
   bif (v.toList==y1.toList) then some (.ret i1) else
   qbV s v n (W64 (i1+1))
  else
   some (.nxt i1)
def qfA (n:Nat) (s:(List ByteArray)) (v:ByteArray):Option Int :=
 (qbV s v n 0).bind fun o=>match o with
 | .ret r=>some r
 | .nxt _ =>
  some (-1)
theorem qmO {s:(List ByteArray)} {v:ByteArray} (ha1:Ro w s cs1) {r:Int} (hF:qfA n s v=some r):RetV Tryz.prog 296 [GoT.v (List ByteArray) cs1,.string v] w r:=by
 obtain ⟨p1,k1,rfl,s1⟩:=ha1
 refine zV 19 Tryz.func296 rfl fun h=>X0 11 rfl ?_
 obtain ⟨o1,hF,hK1⟩:=qc hF
 refine qm (rL (fun m e w'=>∃ (i1:Int),qbV s v m i1=some o1∧e=[(0,.slice p1 s.length k1),(1,.string v),(7,.int .i64 (s.length:Int)),(8,.int .i64 i1)]∧SH w w' []) n ⟨_,hF,rfl,h⟩ rfl ?_)
 rintro m1 e1 w1 ⟨i1,hF,rfl,h⟩
 rcases m1 with _|m1
 ·cases hF
 refine X0 5 rfl (qh rfl hF ?_ ?_)<;>intro hF
 ·refine X0 13 rfl ?_
  obtain ⟨y1,hy1,hF,he1,b1,_,q1,cs2,hp1,hq1,rfl,hc2⟩:=s1.ix hF
  refine zxe hp1 hq1 he1 rfl (zc 0 (hc2.below h.below) rfl (X0 2 rfl (qh rfl hF ?_ ?_)))<;>intro hF
  ·refine X0 5 rfl ?_
   obtain rfl:=qb hF;replace hF:=hK1
   exact ri h hF rfl
  exact X0 6 rfl (rK ⟨_,hF,rfl,h⟩ rfl)
 refine qq rfl ?_
 obtain rfl:=qb hF;replace hF:=hK1
 exact X0 4 rfl (ri h hF rfl)
def qeb (n:Nat) (s:(List ByteArray)) (v:ByteArray):Option Bool :=
 (qfA n s v).bind fun r1 =>
 some (decide (r1 ≥ 0))
theorem qlj {s:(List ByteArray)} {v:ByteArray} (ha1:Ro w s cs1) {r:Bool} (hF:qeb n s v=some r):RetV Tryz.prog 283 [GoT.v (List ByteArray) cs1,.string v] w r:=by
 obtain ⟨p1,k1,rfl,s1⟩:=ha1
 exact zV 9 Tryz.func283 rfl fun h=>X0 8 rfl (zcI h hF (qmO ⟨_,_,rfl,(h.oldS s1)⟩) rfl fun r1 w1 h hF=>X0 3 rfl (rb h hF rfl))
def qen (list:(List ByteArray)):Nat→Int→Option (Flow Bool Int)
 | 0,_=>none
 | n+1,i1 =>
  bif decide (i1<(list.length:Int)) then
   (idx list i1).bind fun y1 =>
   (qik n y1).bind fun r1 =>
   bif (!r1) then some (.ret false) else
   (subS list 0 i1).bind fun x1 =>
   (qeb n x1 y1).bind fun r2 =>
   bif r2 then some (.ret false) else
   qen list n (W64 (i1+1))
  else
   some (.nxt i1)
def qej (n:Nat) (list:(List ByteArray)):Option Bool :=
 (qen list n 0).bind fun o=>match o with
 | .ret r=>some r
 | .nxt _ =>
  some true
theorem qfF {list:(List ByteArray)} (ha1:Ro w list cs1) {r:Bool} (hF:qej n list=some r):RetV Tryz.prog 265 [GoT.v (List ByteArray) cs1] w r:=by
 obtain ⟨p1,k1,rfl,s1⟩:=ha1
 refine zV 23 Tryz.func265 rfl fun h=>X0 11 rfl ?_
 obtain ⟨o1,hF,hK1⟩:=qc hF
 refine qm (rL (fun m e w'=>∃ (i1:Int),qen list m i1=some o1∧e=[(0,.slice p1 list.length k1),(5,.slice p1 list.length k1),(6,.int .i64 (list.length:Int)),(7,.int .i64 i1)]∧SH w w' []) n ⟨_,hF,rfl,h⟩ rfl ?_)
 rintro m1 e1 w1 ⟨i1,hF,rfl,h⟩
 rcases m1 with _|m1
 ·cases hF
 refine X0 5 rfl (qh rfl hF ?_ ?_)<;>intro hF
 ·refine X0 6 rfl ?_
  obtain ⟨y1,hy1,hF,he1,b1,_,q1,cs2,hp1,hq1,rfl,hc2⟩:=s1.ix hF
  refine zxe hp1 hq1 he1 rfl (zc 0 (hc2.below h.below) rfl (X0 6 rfl (zcB h hF qkM rfl fun r1 w2 h hF=>zp2 rfl (qj (t:=15) hF rfl ?_ ?_))))<;>intro hF
  ·refine X0 7 rfl (qb0 rfl rfl (X0 4 rfl ?_))
   obtain rfl:=qb hF;replace hF:=hK1
   exact rb h hF rfl
  refine X0 5 rfl ?_
  obtain ⟨x1,hx1,hF⟩:=qc hF
  obtain ⟨p2,k2,hp2,hk1,hl1,g1⟩:=quR (h.oldS s1) hx1
  refine r_v (qrs qa rfl rfl rfl (quZ g1 rfl) hp2 hk1 hl1 rfl rfl rfl rfl) rfl ?_
  have s2:=qvz s1 hx1 hp2 hk1
  refine X0 3 rfl (zcB h hF (qlj ⟨_,_,rfl,(h.oldS s2)⟩) rfl fun r2 w3 h hF=>X0 2 rfl (qh rfl hF ?_ ?_))<;>intro hF
  ·refine X0 4 rfl ?_
   obtain rfl:=qb hF;replace hF:=hK1
   exact rb h hF rfl
  exact X0 6 rfl (rK ⟨_,hF,rfl,h⟩ rfl)
 refine qq rfl ?_
 obtain rfl:=qb hF;replace hF:=hK1
 exact X0 4 rfl (rb h hF rfl)
def qcr (_:Nat) (list:(List qaj)):Option Int :=
 some (list.length:Int)
theorem qin {list:(List qaj)} (ha1:Ro w list cs1) {r:Int} (hF:qcr n list=some r):RetV Tryz.prog 290 [GoT.v (List qaj) cs1] w r:=by
 obtain ⟨p1,k1,rfl,s1⟩:=ha1
 exact zV 5 Tryz.func290 rfl fun h=>X0 10 rfl (ri h hF rfl)
def qc1 (list:(List qaj)):Nat→(List ByteArray)→Int→Option (Flow Bool ((List ByteArray) × Int))
 | 0,_,_=>none
 | n+1,x1,i1 =>
  bif decide (i1<(list.length:Int)) then
   (idx list i1).bind fun y1 =>
   (appS x1 ([y1.Bb]:List ByteArray)).bind fun x2 =>
   bif (i1==(W64 ((list.length:Int)-1))) then
    bif (y1.Bv != 2) then some (.ret false) else
    bif (y1.Bs != 0) then some (.ret false) else
    bif y1.Br then some (.ret false) else
    qc1 list n x2 (W64 (i1+1))
   else
    bif (y1.Bv != 1) then some (.ret false) else
    (qaR n y1.Bs 0 500).bind fun r1 =>
    bif (!r1) then some (.ret false) else
    qc1 list n x2 (W64 (i1+1))
  else
   some (.nxt (x1,i1))
def qkl (n:Nat) (list:(List qaj)):Option Bool :=
 (qc1 list n ([]:List ByteArray) 0).bind fun o=>match o with
 | .ret r=>some r
 | .nxt (x1,_) =>
  (qcr n list).bind fun r2 =>
  (qaR n r2 2 5).bind fun r3 =>
  bif r3 then
   (qej n x1).bind fun r4 =>
   some r4
  else
   some false
theorem qqv {list:(List qaj)} (ha1:Ro w list cs1) {r:Bool} (hF:qkl n list=some r):RetV Tryz.prog 280 [GoT.v (List qaj) cs1] w r:=by
 obtain ⟨p1,k1,rfl,s1⟩:=ha1
 refine zV 52 Tryz.func280 rfl fun h=>X0 15 rfl ?_
 replace h:=h.nil (α:=ByteArray)
 obtain ⟨o1,hF,hK1⟩:=qc hF
 refine qm (rL (fun m e w'=>∃ (S1:Nat→Prop) (p2:Option Addr) (ln1:Nat) (k2:Nat) (x1:(List ByteArray)) (i1:Int),qc1 list m x1 i1=some o1∧e=[(0,.slice p1 list.length k1),(3,.slice p2 ln1 k2),(6,.slice p1 list.length k1),(7,.int .i64 (list.length:Int)),(8,.int .i64 i1)]∧SH w w' [Ch.own S1 (x1:List ByteArray) [.slice p2 ln1 k2]]) n ⟨_,_,_,_,_,_,hF,rfl,h⟩ rfl ?_)
 rintro m1 e1 w1 ⟨S1,p2,ln1,k2,x1,i1,hF,rfl,h⟩
 obtain rfl:=(h.sl 0 rfl).2
 rcases m1 with _|m1
 ·cases hF
 refine X0 5 rfl (qh rfl hF ?_ ?_)<;>intro hF
 ·refine X0 6 rfl ?_
  obtain ⟨y1,hy1,hF,he1,b1,_,q1,cs2,hp1,hq1,hr1,hc2⟩:=s1.ix hF
  obtain rfl:=qaZ hr1
  refine zxe hp1 hq1 he1 rfl (zc 0 (hc2.below h.below) rfl (qp qa h rfl rfl rfl fun w2 bb1 h=>zp1 rfl (zs 0 h rfl fun w3 h=>X1 6 0 h rfl (qL qa [.tmp 15] _ ([y1.Bb]:List ByteArray) h rfl rfl rfl rfl rfl rfl rfl rfl rfl ⟨rfl,trivial⟩ rfl fun w4 p3 S2 h=>?_))))
  obtain ⟨x2,hx1,hF⟩:=qc hF
  obtain ⟨g1,hx1⟩:=qaw hx1
  refine qcC qa 2 h rfl (h.sl 0 rfl).1 (h.sl 0 rfl).2 rfl rfl rfl rfl rfl rfl rfl rfl rfl g1 hx1 rfl fun w5 p4 k3 S3 h=>X0 10 rfl (qh rfl hF ?_ ?_)<;>intro hF
  ·refine X1 6 1 h rfl (qj (t:=26) hF rfl ?_ ?_)<;>intro hF
   ·refine X0 9 rfl (qb0 rfl rfl (X0 4 rfl ?_))
    obtain rfl:=qb hF;replace hF:=hK1
    exact rb h hF rfl
   refine X1 8 1 h rfl (qj (t:=31) hF rfl ?_ ?_)<;>intro hF
   ·refine X0 4 rfl (qb0 rfl rfl (X0 4 rfl ?_))
    obtain rfl:=qb hF;replace hF:=hK1
    exact rb h hF rfl
   refine X1 6 1 h rfl (qh rfl hF ?_ ?_)<;>intro hF
   ·refine X0 4 rfl ?_
    obtain rfl:=qb hF;replace hF:=hK1
    exact rb h hF rfl
   refine X0 6 rfl ?_
   replace h:=h.pick [2] rfl
   exact rK ⟨_,_,_,_,_,_,hF,rfl,h⟩ rfl
  refine X1 6 1 h rfl (qj (t:=38) hF rfl ?_ ?_)<;>intro hF
  ·refine X0 6 rfl (qb0 rfl rfl (X0 4 rfl ?_))
   obtain rfl:=qb hF;replace hF:=hK1
   exact rb h hF rfl
  refine X1 5 1 h rfl (zcB h hF qaz rfl fun r1 w6 h hF=>X0 4 rfl (qh rfl hF ?_ ?_))<;>intro hF
  ·refine X0 4 rfl ?_
   obtain rfl:=qb hF;replace hF:=hK1
   exact rb h hF rfl
  refine X0 6 rfl ?_
  replace h:=h.pick [2] rfl
  exact rK ⟨_,_,_,_,_,_,hF,rfl,h⟩ rfl
 refine qq rfl ?_
 obtain rfl:=qb hF;replace hF:=hK1
 refine X0 3 rfl (zcI h hF (qin ⟨_,_,rfl,(h.oldS s1)⟩) rfl fun r2 w7 h hF=>zcB h hF qaz rfl fun r3 w8 h hF=>zp1 rfl (qj (t:=48) hF rfl ?_ ?_))<;>intro hF
 ·exact X0 3 rfl (zcB h hF (qfF (h.own 0 rfl)) rfl fun r4 w9 h hF=>X0 3 rfl (rb h hF rfl))
 exact X0 5 rfl (rb h hF rfl)
def qew (n:Nat) (c:qw):Option Int :=
 (qcr n c.Bd).bind fun r1 =>
 some (W64 (r1-1))
theorem qhE {c:qw} (ha1:Ro w c cs1) {r:Int} (hF:qew n c=some r):RetV Tryz.prog 294 [GoT.v qw cs1] w r:=by
 obtain ⟨p1,k1,p2,k2,p3,k3,rfl,s1,s2,s3⟩:=qad ha1
 exact zV 7 Tryz.func294 rfl fun h=>zSR (qv h rfl rfl fun w1 bb1 h=>X1 6 0 h rfl (zcI h hF (qin ⟨_,_,rfl,(h.oldS s1)⟩) rfl fun r1 w2 h hF=>X0 3 rfl (ri h hF rfl)))
def qkk (_:Nat) (kind:Int):Option Bool :=
 bif (kind==4) then some true else
 some (kind==5)
theorem qqL {kind:Int}  {r:Bool} (hF:qkk n kind=some r):RetV Tryz.prog 301 [.int .i64 kind] w r:=by
 refine zV 9 Tryz.func301 rfl fun h=>X0 9 rfl (qj (t:=5) hF rfl ?_ ?_)<;>intro hF
 ·exact X0 5 rfl (rb h hF rfl)
 exact X0 7 rfl (rb h hF rfl)
def qhm (n:Nat) (a_n:Int) (v0:Int) (v1:Int):Option Bool :=
 (qaR n a_n v0 v1).bind fun r1 =>
 some (!r1)
theorem qn7 {a_n:Int} {v0:Int} {v1:Int} {p1:Option Addr} (ha1:Ro w (some v0) [.pointer p1]) {p2:Option Addr} (ha2:Ro w (some v1) [.pointer p2]) {r:Bool} (hF:qhm n a_n v0 v1=some r):RetV Tryz.prog 158 [.int .i64 a_n,.pointer p1,.pointer p2] w r:=by
 obtain ⟨b1,o_1,cs1,rfl,-,hr1,hc1⟩:=PtR.get ha1 rfl
 obtain rfl:=hr1
 obtain ⟨b2,o_2,cs2,rfl,-,hr2,hc2⟩:=PtR.get ha2 rfl
 obtain rfl:=hr2
 exact zV 10 Tryz.func158 rfl fun h=>X0 7 rfl (zc 0 (hc1.below h.below) rfl (zc 0 (hc2.below h.below) rfl (zcB h hF qaz rfl fun r1 w1 h hF=>X0 3 rfl (rb h hF rfl))))
def qaf (s:(List Int)) (f_0:Int) (f_1:Int):Nat→Int→Option (Flow Int Int)
 | 0,_=>none
 | n+1,i1 =>
  bif decide (i1<(s.length:Int)) then
   (idx s i1).bind fun y1 =>
   (qhm n y1 f_0 f_1).bind fun r1 =>
   bif r1 then some (.ret i1) else
   qaf s f_0 f_1 n (W64 (i1+1))
  else
   some (.nxt i1)
def qa2 (n:Nat) (s:(List Int)) (f_0:Int) (f_1:Int):Option Int :=
 (qaf s f_0 f_1 n 0).bind fun o=>match o with
 | .ret r=>some r
 | .nxt _ =>
  some (-1)
theorem qge {s:(List Int)} {f_0:Int} {f_1:Int} (ha1:Ro w s cs1) {p2:Option Addr} (ha2:Ro w (some f_0) [.pointer p2]) {p3:Option Addr} (ha3:Ro w (some f_1) [.pointer p3]) {r:Int} (hF:qa2 n s f_0 f_1=some r):RetV Tryz.prog 162 [GoT.v (List Int) cs1,.func (.func 158) #[] #[.pointer p2,.pointer p3]] w r:=by
 obtain ⟨p1,k1,rfl,s1⟩:=ha1
 obtain ⟨b1,o_1,cs2,rfl,-,hr1,hc1⟩:=PtR.get ha2 rfl
 obtain rfl:=hr1
 obtain ⟨b2,o_2,cs3,rfl,-,hr2,hc2⟩:=PtR.get ha3 rfl
 obtain rfl:=hr2
 refine zV 19 Tryz.func162 rfl fun h=>X0 11 rfl ?_
 obtain ⟨o1,hF,hK1⟩:=qc hF
 refine qm (rL (fun m e w'=>∃ (i1:Int),qaf s f_0 f_1 m i1=some o1∧e=[(0,.slice p1 s.length k1),(1,.func (.func 158) #[] #[.pointer (some ⟨b1,o_1,none⟩),.pointer (some ⟨b2,o_2,none⟩)]),(7,.int .i64 (s.length:Int)),(8,.int .i64 i1)]∧SH w w' []) n ⟨_,hF,rfl,h⟩ rfl ?_)
 rintro m1 e1 w1 ⟨i1,hF,rfl,h⟩
 rcases m1 with _|m1
 ·cases hF
 refine X0 5 rfl (qh rfl hF ?_ ?_)<;>intro hF
 ·refine X0 13 rfl ?_
  obtain ⟨y1,hy1,hF,he1,b3,_,q1,cs4,hp1,hq1,rfl,hc4⟩:=s1.ix hF
  refine zxe hp1 hq1 he1 rfl (zc 0 (hc4.below h.below) rfl (zcB h hF (qn7 (h.old ha2) (h.old ha3)) rfl fun r1 w2 h hF=>qcH (qh rfl hF ?_ ?_)))<;>intro hF
  ·refine X0 5 rfl ?_
   obtain rfl:=qb hF;replace hF:=hK1
   exact ri h hF rfl
  exact X0 6 rfl (rK ⟨_,hF,rfl,h⟩ rfl)
 refine qq rfl ?_
 obtain rfl:=qb hF;replace hF:=hK1
 exact X0 4 rfl (ri h hF rfl)
def qbx (n:Nat) (s:(List Int)) (f_0:Int) (f_1:Int):Option Bool :=
 (qa2 n s f_0 f_1).bind fun r1 =>
 some (decide (r1 ≥ 0))
theorem qfz {s:(List Int)} {f_0:Int} {f_1:Int} (ha1:Ro w s cs1) {p2:Option Addr} (ha2:Ro w (some f_0) [.pointer p2]) {p3:Option Addr} (ha3:Ro w (some f_1) [.pointer p3]) {r:Bool} (hF:qbx n s f_0 f_1=some r):RetV Tryz.prog 110 [GoT.v (List Int) cs1,.func (.func 158) #[] #[.pointer p2,.pointer p3]] w r:=by
 obtain ⟨p1,k1,rfl,s1⟩:=ha1
 obtain ⟨b1,o_1,cs2,rfl,-,hr1,hc1⟩:=PtR.get ha2 rfl
 obtain rfl:=hr1
 obtain ⟨b2,o_2,cs3,rfl,-,hr2,hc2⟩:=PtR.get ha3 rfl
 obtain rfl:=hr2
 exact zV 9 Tryz.func110 rfl fun h=>X0 8 rfl (zcI h hF (qge ⟨_,_,rfl,(h.oldS s1)⟩ (h.old ha2) (h.old ha3)) rfl fun r1 w1 h hF=>X0 3 rfl (rb h hF rfl))
def qbM (n:Nat) (list:(List Int)) (low:Int) (high:Int):Option Bool :=
 (qbx n list low high).bind fun r1 =>
 some (!r1)
theorem qcd {list:(List Int)} {low:Int} {high:Int} (ha1:Ro w list cs1) {r:Bool} (hF:qbM n list low high=some r):RetV Tryz.prog 106 [GoT.v (List Int) cs1,.int .i64 low,.int .i64 high] w r:=by
 obtain ⟨p1,k1,rfl,s1⟩:=ha1
 exact zV 11 Tryz.func106 rfl fun h=>zSR (qv h rfl rfl fun w1 bb1 h=>qv h rfl rfl fun w2 bb2 h=>X0 6 rfl (zcB h hF (qfz ⟨_,_,rfl,(h.oldS s1)⟩ (qgS (x:=low) 1 h rfl rfl) (qgS (x:=high) 0 h rfl rfl)) rfl fun r1 w3 h hF=>X0 3 rfl (rb h hF rfl)))
def qbs (_:Nat) (list:(List Int)):Option Int :=
 some (list.length:Int)
theorem qcv {list:(List Int)} (ha1:Ro w list cs1) {r:Int} (hF:qbs n list=some r):RetV Tryz.prog 217 [GoT.v (List Int) cs1] w r:=by
 obtain ⟨p1,k1,rfl,s1⟩:=ha1
 exact zV 5 Tryz.func217 rfl fun h=>X0 10 rfl (ri h hF rfl)
def qbv (list:(List Int)):Nat→Int→Option (Flow Bool Int)
 | 0,_=>none
 | n+1,i1 =>
  bif decide (i1<(list.length:Int)) then
   (idx list (W64 (i1-1))).bind fun y1 =>
   (idx list i1).bind fun y2 =>
   bif decide (y1 ≥ y2) then some (.ret false) else
   qbv list n (W64 (i1+1))
  else
   some (.nxt i1)
def qfl (n:Nat) (list:(List Int)):Option Bool :=
 (qbv list n 1).bind fun o=>match o with
 | .ret r=>some r
 | .nxt _ =>
  some true
theorem qjR {list:(List Int)} (ha1:Ro w list cs1) {r:Bool} (hF:qfl n list=some r):RetV Tryz.prog 223 [GoT.v (List Int) cs1] w r:=by
 obtain ⟨p1,k1,rfl,s1⟩:=ha1
 refine zV 20 Tryz.func223 rfl fun h=>X0 9 rfl ?_
 obtain ⟨o1,hF,hK1⟩:=qc hF
 refine qm (rL (fun m e w'=>∃ (i1:Int),qbv list m i1=some o1∧e=[(0,.slice p1 list.length k1),(3,.int .i64 i1)]∧SH w w' []) n ⟨_,hF,rfl,h⟩ rfl ?_)
 rintro m1 e1 w1 ⟨i1,hF,rfl,h⟩
 rcases m1 with _|m1
 ·cases hF
 refine X0 8 rfl (qh rfl hF ?_ ?_)<;>intro hF
 ·refine X0 4 rfl (rD (zd3 rfl ?_))
  obtain ⟨y1,hy1,hF,he1,b1,_,q1,cs2,hp1,hq1,rfl,hc2⟩:=s1.ix hF
  refine zdxe hp1 hq1 he1 rfl (zdc 0 (hc2.below h.below) rfl (zd2 rfl ?_))
  obtain ⟨y2,hy2,hF,he2,b2,_,q2,cs3,hp2,hq2,rfl,hc3⟩:=s1.ix hF
  refine zdxe hp2 hq2 he2 rfl (zdc 0 (hc3.below h.below) rfl (zd1 rfl (dN h fun w2 h=>qh rfl hF ?_ ?_)))<;>intro hF
  ·refine X0 4 rfl ?_
   obtain rfl:=qb hF;replace hF:=hK1
   exact rb h hF rfl
  exact X0 7 rfl (rK ⟨_,hF,rfl,h⟩ rfl)
 refine qq rfl ?_
 obtain rfl:=qb hF;replace hF:=hK1
 exact X0 4 rfl (rb h hF rfl)
def qjE (n:Nat) (list:(List Int)):Option Bool :=
 (qbs n list).bind fun r1 =>
 (qaR n r1 1 4).bind fun r2 =>
 bif r2 then
  (qbM n list 0 100000).bind fun r3 =>
  bif r3 then
   (qfl n list).bind fun r4 =>
   some r4
  else
   some false
 else
  some false
theorem qnL {list:(List Int)} (ha1:Ro w list cs1) {r:Bool} (hF:qjE n list=some r):RetV Tryz.prog 318 [GoT.v (List Int) cs1] w r:=by
 obtain ⟨p1,k1,rfl,s1⟩:=ha1
 refine zV 14 Tryz.func318 rfl fun h=>X0 7 rfl (zcI h hF (qcv ⟨_,_,rfl,(h.oldS s1)⟩) rfl fun r1 w1 h hF=>zcB h hF qaz rfl fun r2 w2 h hF=>zp1 rfl (qj (t:=6) hF rfl ?_ ?_))<;>intro hF
 ·refine X0 3 rfl (zcB h hF (qcd ⟨_,_,rfl,(h.oldS s1)⟩) rfl fun r3 w3 h hF=>zp2 rfl (qj (t:=10) hF rfl ?_ ?_))<;>intro hF
  ·exact X0 3 rfl (zcB h hF (qjR ⟨_,_,rfl,(h.oldS s1)⟩) rfl fun r4 w4 h hF=>X0 3 rfl (rb h hF rfl))
  exact X0 5 rfl (rb h hF rfl)
 exact X0 9 rfl (rb h hF rfl)
def qkw (n:Nat) (t:qr):Option Bool :=
 (qjE n t.Bm).bind fun r1 =>
 bif r1 then
  (qjE n t.Bj).bind fun r2 =>
  bif r2 then
   bif ((t.Bh.length:Int)==(W64 ((t.Bm.length:Int)*(t.Bj.length:Int)))) then
    (qbM n t.Bh (-1000000) 1000000).bind fun r3 =>
    some r3
   else
    some false
  else
   some false
 else
  some false
theorem qqn {t:qr} (ha1:Ro w t cs1) {r:Bool} (hF:qkw n t=some r):RetV Tryz.prog 313 [GoT.v qr cs1] w r:=by
 obtain ⟨p1,k1,p2,k2,p3,k3,rfl,s1,s2,s3⟩:=qaE ha1
 refine zV 29 Tryz.func313 rfl fun h=>zSR (qv h rfl rfl fun w1 bb1 h=>X1 6 0 h rfl (zcB h hF (qnL ⟨_,_,rfl,(h.oldS s1)⟩) rfl fun r1 w2 h hF=>zp1 rfl (qj (t:=6) hF rfl ?_ ?_)))<;>intro hF
 ·refine X1 5 0 h rfl (zcB h hF (qnL ⟨_,_,rfl,(h.oldS s2)⟩) rfl fun r2 w3 h hF=>zp2 rfl (qj (t:=11) hF rfl ?_ ?_))<;>intro hF
  ·refine X3 24 0 0 0 h rfl (qj (t:=24) hF rfl ?_ ?_)<;>intro hF
   ·exact X1 5 0 h rfl (zcB h hF (qcd ⟨_,_,rfl,(h.oldS s3)⟩) rfl fun r3 w4 h hF=>X0 3 rfl (rb h hF rfl))
   exact X0 6 rfl (rb h hF rfl)
  exact X0 19 rfl (rb h hF rfl)
 exact X0 24 rfl (rb h hF rfl)
def qcV (x:(List Int)):Nat→Int→Int→Option (Int × Int)
 | 0,_,_=>none
 | n+1,i1,i2 =>
  bif decide (i2<(x.length:Int)) then
   (idx x i2).bind fun y2 =>
   qcV x n (if y2<i1 then y2 else i1) (W64 (i2+1))
  else
   some (i1,i2)
def qhs (n:Nat) (x:(List Int)):Option Int :=
 (
  bif decide ((x.length:Int)<1) then none else
  some ()).bind fun _ =>
 (idx x 0).bind fun y1 =>
 (qcV x n y1 1).bind fun o=>match o with
 | (i1,_) =>
  some i1
theorem qog {x:(List Int)} (ha1:Ro w x cs1) {r:Int} (hF:qhs n x=some r):RetV Tryz.prog 314 [GoT.v (List Int) cs1] w r:=by
 obtain ⟨p1,k1,rfl,s1⟩:=ha1
 refine zV 25 Tryz.func314 rfl fun h=>X0 11 rfl ?_
 obtain ⟨KF1,hKF1,o2,hF,hK2⟩:=bindE hF
 refine qbe (fun e w'=>KF1 ()=some r∧e=[(0,.slice p1 x.length k1)]∧SH w w' []) ?_ ?_
 ·refine qh rfl hF ?_ ?_<;>intro hF
  ·refine qme ?_
   cases hF
  refine qih ?_
  obtain rfl:=qb hF
  exact rG ⟨hK2,rfl,h⟩ rfl
 rintro e2 w2 ⟨hF,rfl,h⟩
 subst hKF1
 refine X0 3 rfl ?_
 obtain ⟨y1,hy1,hF,he1,b1,_,q1,cs2,hp1,hq1,rfl,hc1⟩:=s1.ix hF
 refine zxe hp1 hq1 he1 rfl (zc 0 (hc1.below h.below) rfl (X0 7 rfl ?_))
 obtain ⟨o1,hF,hK1⟩:=qc hF
 refine qm (rL (fun m e w'=>∃ (i1:Int) (i2:Int),qcV x m i1 i2=some o1∧e=[(0,.slice p1 x.length k1),(3,.int .i64 i1),(4,.int .i64 i2)]∧SH w w' []) n ⟨_,_,hF,rfl,h⟩ rfl ?_)
 rintro m1 e1 w1 ⟨i1,i2,hF,rfl,h⟩
 rcases m1 with _|m1
 ·cases hF
 refine X0 8 rfl (qh rfl hF ?_ ?_)<;>intro hF
 ·refine X0 7 rfl ?_
  obtain ⟨y2,hy2,hF,he2,b2,_,q2,cs3,hp2,hq2,rfl,hc3⟩:=s1.ix hF
  exact zxe hp2 hq2 he2 rfl (zc 0 (hc3.below h.below) rfl (X0 9 rfl (rK ⟨_,_,hF,rfl,h⟩ rfl)))
 refine qq rfl ?_
 obtain rfl:=qb hF;replace hF:=hK1
 exact X0 5 rfl (ri h hF rfl)
def qhl (n:Nat) (t:qr) (v0:Bool):Option Bool :=
 (qkw n t).bind fun r1 =>
 bif (!r1) then some true else
 bif v0 then
  (qhs n t.Bh).bind fun r2 =>
  some (decide (r2<0))
 else
  some false
theorem qoa {t:qr} {v0:Bool} (ha1:Ro w t cs1) {p4:Option Addr} (ha2:Ro w (some v0) [.pointer p4]) {r:Bool} (hF:qhl n t v0=some r):RetV Tryz.prog 312 [GoT.v qr cs1,.pointer p4] w r:=by
 obtain ⟨p1,k1,p2,k2,p3,k3,rfl,s1,s2,s3⟩:=qaE ha1
 obtain ⟨b1,o_1,cs2,rfl,-,hr1,hc1⟩:=PtR.get ha2 rfl
 obtain rfl:=hr1
 refine zV 16 Tryz.func312 rfl fun h=>zSR (qv h rfl rfl fun w1 bb1 h=>X1 5 0 h rfl (zcB h hF (qqn (h.old ha1)) rfl fun r1 w2 h hF=>zp2 rfl (qj (t:=7) hF rfl ?_ ?_)))<;>intro hF
 ·exact X0 10 rfl (rb h hF rfl)
 refine X0 1 rfl (zc 0 (hc1.below h.below) rfl (X0 2 rfl (qj (t:=9) hF rfl ?_ ?_)))<;>intro hF
 ·exact X1 5 0 h rfl (zcI h hF (qog ⟨_,_,rfl,(h.oldS s3)⟩) rfl fun r2 w3 h hF=>X0 7 rfl (rb h hF rfl))
 exact X0 9 rfl (rb h hF rfl)
def qR (s:(List qr)) (f_0:Bool):Nat→Int→Option (Flow Int Int)
 | 0,_=>none
 | n+1,i1 =>
  bif decide (i1<(s.length:Int)) then
   (idx s i1).bind fun y1 =>
   (qhl n y1 f_0).bind fun r1 =>
   bif r1 then some (.ret i1) else
   qR s f_0 n (W64 (i1+1))
  else
   some (.nxt i1)
def qaG (n:Nat) (s:(List qr)) (f_0:Bool):Option Int :=
 (qR s f_0 n 0).bind fun o=>match o with
 | .ret r=>some r
 | .nxt _ =>
  some (-1)
theorem qe8 {s:(List qr)} {f_0:Bool} (ha1:Ro w s cs1) {p2:Option Addr} (ha2:Ro w (some f_0) [.pointer p2]) {r:Int} (hF:qaG n s f_0=some r):RetV Tryz.prog 317 [GoT.v (List qr) cs1,.func (.func 312) #[] #[.pointer p2]] w r:=by
 obtain ⟨p1,k1,rfl,s1⟩:=ha1
 obtain ⟨b1,o_1,cs2,rfl,-,hr1,hc1⟩:=PtR.get ha2 rfl
 obtain rfl:=hr1
 refine zV 19 Tryz.func317 rfl fun h=>X0 11 rfl ?_
 obtain ⟨o1,hF,hK1⟩:=qc hF
 refine qm (rL (fun m e w'=>∃ (i1:Int),qR s f_0 m i1=some o1∧e=[(0,.slice p1 s.length k1),(1,.func (.func 312) #[] #[.pointer (some ⟨b1,o_1,none⟩)]),(7,.int .i64 (s.length:Int)),(8,.int .i64 i1)]∧SH w w' []) n ⟨_,hF,rfl,h⟩ rfl ?_)
 rintro m1 e1 w1 ⟨i1,hF,rfl,h⟩
 rcases m1 with _|m1
 ·cases hF
 refine X0 5 rfl (qh rfl hF ?_ ?_)<;>intro hF
 ·refine X0 13 rfl ?_
  obtain ⟨y1,hy1,hF,he1,b2,_,q1,cs3,hp1,hq1,hr2,hc3⟩:=s1.ix hF
  obtain ⟨p3,k2,p4,k3,p5,k4,rfl,s2,s3,s4⟩:=qaE hr2
  refine zxe hp1 hq1 he1 rfl (zc 0 (hc3.below h.below) rfl (zcB h hF (qoa (qfs y1 (h.oldS s2) (h.oldS s3) (h.oldS s4)) (h.old ha2)) rfl fun r1 w2 h hF=>qcH (qh rfl hF ?_ ?_)))<;>intro hF
  ·refine X0 5 rfl ?_
   obtain rfl:=qb hF;replace hF:=hK1
   exact ri h hF rfl
  exact X0 6 rfl (rK ⟨_,hF,rfl,h⟩ rfl)
 refine qq rfl ?_
 obtain rfl:=qb hF;replace hF:=hK1
 exact X0 4 rfl (ri h hF rfl)
def qa9 (n:Nat) (s:(List qr)) (f_0:Bool):Option Bool :=
 (qaG n s f_0).bind fun r1 =>
 some (decide (r1 ≥ 0))
theorem qeQ {s:(List qr)} {f_0:Bool} (ha1:Ro w s cs1) {p2:Option Addr} (ha2:Ro w (some f_0) [.pointer p2]) {r:Bool} (hF:qa9 n s f_0=some r):RetV Tryz.prog 311 [GoT.v (List qr) cs1,.func (.func 312) #[] #[.pointer p2]] w r:=by
 obtain ⟨p1,k1,rfl,s1⟩:=ha1
 obtain ⟨b1,o_1,cs2,rfl,-,hr1,hc1⟩:=PtR.get ha2 rfl
 obtain rfl:=hr1
 exact zV 9 Tryz.func311 rfl fun h=>X0 8 rfl (zcI h hF (qe8 ⟨_,_,rfl,(h.oldS s1)⟩ (h.old ha2)) rfl fun r1 w1 h hF=>X0 3 rfl (rb h hF rfl))
def qfL (n:Nat) (list:(List qr)) (positive:Bool):Option Bool :=
 bif ((list.length:Int)==2) then
  (qa9 n list positive).bind fun r1 =>
  some (!r1)
 else
  some false
theorem qiW {list:(List qr)} {positive:Bool} (ha1:Ro w list cs1) {r:Bool} (hF:qfL n list positive=some r):RetV Tryz.prog 302 [GoT.v (List qr) cs1,.bool positive] w r:=by
 obtain ⟨p1,k1,rfl,s1⟩:=ha1
 refine zV 14 Tryz.func302 rfl fun h=>zSR (qv h rfl rfl fun w1 bb1 h=>X0 8 rfl (qj (t:=8) hF rfl ?_ ?_))<;>intro hF
 ·exact X0 5 rfl (zcB h hF (qeQ ⟨_,_,rfl,(h.oldS s1)⟩ (qgS (x:=positive) 0 h rfl rfl)) rfl fun r1 w2 h hF=>X0 5 rfl (rb h hF rfl))
 exact X0 7 rfl (rb h hF rfl)
def qiE (_:Nat) (p:qaj):Option Bool :=
 some p.Br
theorem qni {p:qaj} (ha1:Ro w p cs1) {r:Bool} (hF:qiE n p=some r):RetV Tryz.prog 316 [GoT.v qaj cs1] w r:=by
 obtain rfl:=qaZ ha1
 exact zV 5 Tryz.func316 rfl fun h=>zSR (qv h rfl rfl fun w1 bb1 h=>X1 8 0 h rfl (rb h hF rfl))
def qW (s:(List qaj)):Nat→Int→Option (Flow Int Int)
 | 0,_=>none
 | n+1,i1 =>
  bif decide (i1<(s.length:Int)) then
   (idx s i1).bind fun y1 =>
   (qiE n y1).bind fun r1 =>
   bif r1 then some (.ret i1) else
   qW s n (W64 (i1+1))
  else
   some (.nxt i1)
def qbt (n:Nat) (s:(List qaj)):Option Int :=
 (qW s n 0).bind fun o=>match o with
 | .ret r=>some r
 | .nxt _ =>
  some (-1)
theorem qfv {s:(List qaj)} (ha1:Ro w s cs1) {r:Int} (hF:qbt n s=some r):RetV Tryz.prog 315 [GoT.v (List qaj) cs1,.func (.func 316) #[] #[]] w r:=by
 obtain ⟨p1,k1,rfl,s1⟩:=ha1
 refine zV 19 Tryz.func315 rfl fun h=>X0 11 rfl ?_
 obtain ⟨o1,hF,hK1⟩:=qc hF
 refine qm (rL (fun m e w'=>∃ (i1:Int),qW s m i1=some o1∧e=[(0,.slice p1 s.length k1),(1,.func (.func 316) #[] #[]),(7,.int .i64 (s.length:Int)),(8,.int .i64 i1)]∧SH w w' []) n ⟨_,hF,rfl,h⟩ rfl ?_)
 rintro m1 e1 w1 ⟨i1,hF,rfl,h⟩
 rcases m1 with _|m1
 ·cases hF
 refine X0 5 rfl (qh rfl hF ?_ ?_)<;>intro hF
 ·refine X0 13 rfl ?_
  obtain ⟨y1,hy1,hF,he1,b1,_,q1,cs2,hp1,hq1,hr1,hc2⟩:=s1.ix hF
  obtain rfl:=qaZ hr1
  refine zxe hp1 hq1 he1 rfl (zc 0 (hc2.below h.below) rfl (zcB h hF (qni (qd1 y1)) rfl fun r1 w2 h hF=>qcH (qh rfl hF ?_ ?_)))<;>intro hF
  ·refine X0 5 rfl ?_
   obtain rfl:=qb hF;replace hF:=hK1
   exact ri h hF rfl
  exact X0 6 rfl (rK ⟨_,hF,rfl,h⟩ rfl)
 refine qq rfl ?_
 obtain rfl:=qb hF;replace hF:=hK1
 exact X0 4 rfl (ri h hF rfl)
def qh5 (n:Nat) (c:qw):Option Int :=
 (qbt n c.Bd).bind fun r1 =>
 some r1
theorem qoo {c:qw} (ha1:Ro w c cs1) {r:Int} (hF:qh5 n c=some r):RetV Tryz.prog 303 [GoT.v qw cs1] w r:=by
 obtain ⟨p1,k1,p2,k2,p3,k3,rfl,s1,s2,s3⟩:=qad ha1
 exact zV 6 Tryz.func303 rfl fun h=>zSR (qv h rfl rfl fun w1 bb1 h=>X1 6 0 h rfl (zcI h hF (qfv ⟨_,_,rfl,(h.oldS s1)⟩) rfl fun r1 w2 h hF=>X0 2 rfl (ri h hF rfl)))
def qgM (n:Nat) (c:qw) (pin:Int):Option Bool :=
 (qew n c).bind fun r1 =>
 (qaR n pin 0 (W64 (r1-1))).bind fun r2 =>
 some r2
theorem qjI {c:qw} {pin:Int} (ha1:Ro w c cs1) {r:Bool} (hF:qgM n c pin=some r):RetV Tryz.prog 304 [GoT.v qw cs1,.int .i64 pin] w r:=by
 obtain ⟨p1,k1,p2,k2,p3,k3,rfl,s1,s2,s3⟩:=qad ha1
 exact zV 10 Tryz.func304 rfl fun h=>zSR (qv h rfl rfl fun w1 bb1 h=>X1 6 0 h rfl (zcI h hF (qhE (h.old ha1)) rfl fun r1 w2 h hF=>zp1 rfl (zcB h hF qaz rfl fun r2 w3 h hF=>X0 2 rfl (rb h hF rfl))))
end Go.Fw


namespace Go.Fw
open Go Go.Proofs
open Go.RowKit (Below)
set_option maxRecDepth 100000
set_option maxHeartbeats 1600000
variable {n:Nat} {w:World} {cs1 cs2 cs3 cs4 cs5 cs6 cs7 cs8 cs9:List Value}
def qh7 (n:Nat) (a_0:qw) (a_1:qG):Option Bool :=
 (qkk n a_1.Bf).bind fun r1 =>
 bif r1 then
  (
   bif (a_1.Bp==0) then
    bif ((a_1.Bc.length:Int)==0) then
     (qfL n a_1.Bn false).bind fun r2 =>
     bif r2 then
      (qh5 n a_0).bind fun r3 =>
      bif (a_1.Bk==r3) then
       bif decide (a_1.Bk ≥ 0) then
        (qgM n a_0 a_1.To).bind fun r4 =>
        bif r4 then some (a_1.To != a_1.Bk) else
        some false
       else
        some false
      else
       some false
     else
      some false
    else
     some false
   else
    some false).bind fun b1 =>
  some b1
 else
  (
   (qfL n a_1.Bn true).bind fun r6 =>
   bif (!r6) then some true else
   (qfL n a_1.Bc true).bind fun r7 =>
   bif (!r7) then some true else
   (qew n a_0).bind fun r8 =>
   bif (a_1.To != r8) then some true else
   (qgM n a_0 a_1.Bk).bind fun r9 =>
   some (!r9)).bind fun b2 =>
  bif b2 then some false else
  bif (a_1.Bf==1) then
   (idx a_0.Bd a_1.Bk).bind fun y1 =>
   bif (!y1.Br) then
    (qaR n a_1.Bp 1 3).bind fun r5 =>
    some r5
   else
    some false
  else
   (
    bif (a_1.Bf==2) then some (a_1.Bf==2) else
    some (a_1.Bf==3)).bind fun b4 =>
   bif b4 then
    (idx a_0.Bd a_1.Bk).bind fun y2 =>
    bif y2.Br then some (a_1.Bp==0) else
    some false
   else
    some false
theorem qoB {a_0:qw} {a_1:qG} (ha1:Ro w a_0 cs1) (ha2:Ro w a_1 cs2) {r:Bool} (hF:qh7 n a_0 a_1=some r):RetV Tryz.prog 291 [GoT.v qw cs1,GoT.v qG cs2] w r:=by
 obtain ⟨p1,k1,p2,k2,p3,k3,rfl,s1,s2,s3⟩:=qad ha1
 obtain ⟨p4,k4,p5,k5,rfl,s4,s5⟩:=qae ha2
 refine zV 103 Tryz.func291 rfl fun h=>zSR (qv h rfl rfl fun w1 bb1 h=>qv h rfl rfl fun w2 bb2 h=>X1 7 0 h rfl (zcB h hF qqL rfl fun r1 w3 h hF=>qcH (qh rfl hF ?_ ?_)))<;>intro hF
 ·refine qcP ?_
  obtain ⟨KF1,hKF1,o1,hF,hK1⟩:=bindE hF
  refine qbe (fun e w'=>∃ (b1:Bool),KF1 b1=some r∧e=[(4,.bool b1)]∧SH w w' []) ?_ ?_
  ·refine rD (Y1 2 0 h rfl ?_)
   refine zd2 rfl (qaT (t:=11) hF rfl ?_ ?_)<;>intro hF
   ·refine Y1 4 0 h rfl ?_
    refine Y0 6 rfl (qaT (t:=17) hF rfl ?_ ?_)<;>intro hF
    ·refine Y1 4 0 h rfl ?_
     refine Y0 1 rfl ?_
     obtain ⟨r2,hr2,hF⟩:=qc hF
     refine qa0 r2 (vsB _) (cB 302 rfl) (fun _ hb=>qiW ⟨_,_,rfl,((h.ext hb).oldS s4)⟩ hr2) rfl rfl rfl rfl (zd2 rfl (qaT (t:=22) hF rfl ?_ ?_))<;>intro hF
     ·refine Y1 4 0 h rfl ?_
      refine Y1 2 1 h rfl ?_
      refine Y0 1 rfl ?_
      obtain ⟨r3,hr3,hF⟩:=qc hF
      refine qa0 r3 (vsI _) (cB 303 rfl) (fun _ hb=>qoo ((h.ext hb).old ha1) hr3) rfl rfl rfl rfl (Y0 4 rfl (qaT (t:=29) hF rfl ?_ ?_))<;>intro hF
      ·refine Y1 4 0 h rfl ?_
       refine Y0 4 rfl (qaT (t:=34) hF rfl ?_ ?_)<;>intro hF
       ·refine Y1 2 1 h rfl ?_
        refine Y1 4 0 h rfl ?_
        refine Y0 1 rfl ?_
        obtain ⟨r4,hr4,hF⟩:=qc hF
        refine qa0 r4 (vsB _) (cB 304 rfl) (fun _ hb=>qjI ((h.ext hb).old ha1) hr4) rfl rfl rfl rfl (zd2 rfl (qaT (t:=40) hF rfl ?_ ?_))<;>intro hF
        ·refine Y1 4 0 h rfl ?_
         refine Y1 4 0 h rfl ?_
         refine Y0 4 rfl (dN h fun w4 h=>?_)
         replace h:=h.pick [] rfl
         obtain rfl:=qb hF
         exact rG ⟨_,hK1,rfl,h⟩ rfl
        refine Y0 7 rfl (dN h fun w5 h=>?_)
        replace h:=h.pick [] rfl
        obtain rfl:=qb hF
        exact rG ⟨_,hK1,rfl,h⟩ rfl
       refine Y0 13 rfl (dN h fun w6 h=>?_)
       replace h:=h.pick [] rfl
       obtain rfl:=qb hF
       exact rG ⟨_,hK1,rfl,h⟩ rfl
      refine Y0 18 rfl (dN h fun w7 h=>?_)
      replace h:=h.pick [] rfl
      obtain rfl:=qb hF
      exact rG ⟨_,hK1,rfl,h⟩ rfl
     refine Y0 25 rfl (dN h fun w8 h=>?_)
     replace h:=h.pick [] rfl
     obtain rfl:=qb hF
     exact rG ⟨_,hK1,rfl,h⟩ rfl
    refine Y0 30 rfl (dN h fun w9 h=>?_)
    replace h:=h.pick [] rfl
    obtain rfl:=qb hF
    exact rG ⟨_,hK1,rfl,h⟩ rfl
   refine Y0 36 rfl (dN h fun w10 h=>?_)
   replace h:=h.pick [] rfl
   obtain rfl:=qb hF
   exact rG ⟨_,hK1,rfl,h⟩ rfl
  rintro e1 w11 ⟨b1,hF,rfl,h⟩
  subst hKF1
  exact rb h hF rfl
 refine zKSS ?_
 obtain ⟨KF3,hKF3,o3,hF,hK3⟩:=bindE hF
 refine qbe (fun e w'=>∃ (b2:Bool),KF3 b2=some r∧e=[(2,.pointer (some ⟨bb1,0,none⟩)),(3,.pointer (some ⟨bb2,0,none⟩)),(70,.bool b2)]∧SH w w' [Ch.box bb2 (qg6 a_1 p4 p5 k4 k5) 173,Ch.box bb1 (qee a_0 p1 p2 p3 k1 k2 k3) 168]) ?_ ?_
 ·refine rD (Y1 2 0 h rfl ?_)
  obtain ⟨r6,hr8,hF⟩:=qc hF
  refine qa0 r6 (vsB _) (cB 302 rfl) (fun _ hb=>qiW ⟨_,_,rfl,((h.ext hb).oldS s4)⟩ hr8) rfl rfl rfl rfl (zd2 rfl (qaT (t:=51) hF rfl ?_ ?_))<;>intro hF
  ·refine Y0 19 rfl (dN h fun w14 h=>?_)
   obtain rfl:=qb hF
   exact rG ⟨_,hK3,rfl,h⟩ rfl
  refine Y1 4 0 h rfl ?_
  refine Y0 1 rfl ?_
  obtain ⟨r7,hr9,hF⟩:=qc hF
  refine qa0 r7 (vsB _) (cB 302 rfl) (fun _ hb=>qiW ⟨_,_,rfl,((h.ext hb).oldS s5)⟩ hr9) rfl rfl rfl rfl (Y0 4 rfl (qaT (t:=57) hF rfl ?_ ?_))<;>intro hF
  ·refine Y0 13 rfl (dN h fun w15 h=>?_)
   obtain rfl:=qb hF
   exact rG ⟨_,hK3,rfl,h⟩ rfl
  refine Y1 4 0 h rfl ?_
  refine Y1 2 1 h rfl ?_
  refine Y0 1 rfl ?_
  obtain ⟨r8,hr10,hF⟩:=qc hF
  refine qa0 r8 (vsI _) (cB 294 rfl) (fun _ hb=>qhE ((h.ext hb).old ha1) hr10) rfl rfl rfl rfl (Y0 4 rfl (qaT (t:=64) hF rfl ?_ ?_))<;>intro hF
  ·refine Y0 6 rfl (dN h fun w16 h=>?_)
   obtain rfl:=qb hF
   exact rG ⟨_,hK3,rfl,h⟩ rfl
  refine Y1 2 1 h rfl ?_
  refine Y1 4 0 h rfl ?_
  refine Y0 1 rfl ?_
  obtain ⟨r9,hr11,hF⟩:=qc hF
  refine qa0 r9 (vsB _) (cB 304 rfl) (fun _ hb=>qjI ((h.ext hb).old ha1) hr11) rfl rfl rfl rfl (Y0 3 rfl (dN h fun w17 h=>?_))
  obtain rfl:=qb hF
  exact rG ⟨_,hK3,rfl,h⟩ rfl
 rintro e3 w18 ⟨b2,hF,rfl,h⟩
 subst hKF3
 refine qh rfl hF ?_ ?_<;>intro hF
 ·exact X0 4 rfl (rb h hF rfl)
 refine X1 13 0 h rfl (qh rfl hF ?_ ?_)<;>intro hF
 ·refine X2 6 1 0 h rfl ?_
  obtain ⟨y1,hy1,hF,he1,b3,_,q1,cs3,hp1,hq1,hr5,hc4⟩:=s1.ix hF
  obtain rfl:=qaZ hr5
  refine zxe hp1 hq1 he1 rfl (zp1 rfl (zc 3 (hc4.below h.below) rfl (zp2 rfl (qj (t:=83) hF rfl ?_ ?_))))<;>intro hF
  ·exact X1 5 0 h rfl (zcB h hF qaz rfl fun r5 w12 h hF=>X0 3 rfl (rb h hF rfl))
  exact X0 6 rfl (rb h hF rfl)
 refine X0 6 rfl ?_
 obtain ⟨KF2,hKF2,o2,hF,hK2⟩:=bindE hF
 refine qbe (fun e w'=>∃ (b4:Bool),KF2 b4=some r∧e=[(2,.pointer (some ⟨bb1,0,none⟩)),(3,.pointer (some ⟨bb2,0,none⟩)),(88,.bool b4)]∧SH w w' [Ch.box bb2 (qg6 a_1 p4 p5 k4 k5) 173,Ch.box bb1 (qee a_0 p1 p2 p3 k1 k2 k3) 168]) ?_ ?_
 ·refine qh rfl hF ?_ ?_<;>intro hF
  ·refine qih ?_
   obtain rfl:=qb hF
   exact rG ⟨_,hK2,rfl,h⟩ rfl
  refine X0 4 rfl ?_
  obtain rfl:=qb hF
  exact rG ⟨_,hK2,rfl,h⟩ rfl
 rintro e2 w13 ⟨b4,hF,rfl,h⟩
 subst hKF2
 refine qh rfl hF ?_ ?_<;>intro hF
 ·refine X2 6 1 0 h rfl ?_
  obtain ⟨y2,hy2,hF,he2,b5,_,q2,cs4,hp2,hq2,hr7,hc6⟩:=s1.ix hF
  obtain rfl:=qaZ hr7
  refine zxe hp2 hq2 he2 rfl (zp1 rfl (zc 3 (hc6.below h.below) rfl (zp1 rfl (qj (t:=98) hF rfl ?_ ?_))))<;>intro hF
  ·exact X1 9 0 h rfl (rb h hF rfl)
  exact X0 6 rfl (rb h hF rfl)
 exact X0 6 rfl (rb h hF rfl)
def qfC (_:Nat) (a_o:qG) (v0:qG):Option Bool :=
 bif (a_o.Bf==v0.Bf) then
  bif (a_o.Bk==v0.Bk) then some (a_o.To==v0.To) else
  some false
 else
  some false
theorem qmz {a_o:qG} {v0:qG} (ha1:Ro w a_o cs1) {p3:Option Addr} (ha2:Ro w (some v0) [.pointer p3]) {r:Bool} (hF:qfC n a_o v0=some r):RetV Tryz.prog 293 [GoT.v qG cs1,.pointer p3] w r:=by
 obtain ⟨p1,k1,p2,k2,rfl,s1,s2⟩:=qae ha1
 obtain ⟨b1,o_1,cs2,rfl,-,hr1,hc1⟩:=PtR.get ha2 rfl
 obtain ⟨p4,k3,p5,k4,rfl,s3,s4⟩:=qae hr1
 refine zV 23 Tryz.func293 rfl fun h=>zSR (qv h rfl rfl fun w1 bb1 h=>X1 7 0 h rfl (zc 0 (hc1.below h.below) rfl (zp2 rfl (qj (t:=9) hF rfl ?_ ?_))))<;>intro hF
 ·refine X1 7 0 h rfl (zc 1 (hc1.below h.below) rfl (X0 4 rfl (qj (t:=16) hF rfl ?_ ?_)))<;>intro hF
  ·exact X1 7 0 h rfl (zc 2 (hc1.below h.below) rfl (X0 5 rfl (rb h hF rfl)))
  exact X0 8 rfl (rb h hF rfl)
 exact X0 15 rfl (rb h hF rfl)
def qQ (s:(List qG)) (f_0:qG):Nat→Int→Option (Flow Int Int)
 | 0,_=>none
 | n+1,i1 =>
  bif decide (i1<(s.length:Int)) then
   (idx s i1).bind fun y1 =>
   (qfC n y1 f_0).bind fun r1 =>
   bif r1 then some (.ret i1) else
   qQ s f_0 n (W64 (i1+1))
  else
   some (.nxt i1)
def qbc (n:Nat) (s:(List qG)) (f_0:qG):Option Int :=
 (qQ s f_0 n 0).bind fun o=>match o with
 | .ret r=>some r
 | .nxt _ =>
  some (-1)
theorem qeV {s:(List qG)} {f_0:qG} (ha1:Ro w s cs1) {p2:Option Addr} (ha2:Ro w (some f_0) [.pointer p2]) {r:Int} (hF:qbc n s f_0=some r):RetV Tryz.prog 305 [GoT.v (List qG) cs1,.func (.func 293) #[] #[.pointer p2]] w r:=by
 obtain ⟨p1,k1,rfl,s1⟩:=ha1
 obtain ⟨b1,o_1,cs2,rfl,-,hr1,hc1⟩:=PtR.get ha2 rfl
 obtain ⟨p3,k2,p4,k3,rfl,s2,s3⟩:=qae hr1
 refine zV 19 Tryz.func305 rfl fun h=>X0 11 rfl ?_
 obtain ⟨o1,hF,hK1⟩:=qc hF
 refine qm (rL (fun m e w'=>∃ (i1:Int),qQ s f_0 m i1=some o1∧e=[(0,.slice p1 s.length k1),(1,.func (.func 293) #[] #[.pointer (some ⟨b1,o_1,none⟩)]),(7,.int .i64 (s.length:Int)),(8,.int .i64 i1)]∧SH w w' []) n ⟨_,hF,rfl,h⟩ rfl ?_)
 rintro m1 e1 w1 ⟨i1,hF,rfl,h⟩
 rcases m1 with _|m1
 ·cases hF
 refine X0 5 rfl (qh rfl hF ?_ ?_)<;>intro hF
 ·refine X0 13 rfl ?_
  obtain ⟨y1,hy1,hF,he1,b2,_,q1,cs3,hp1,hq1,hr2,hc3⟩:=s1.ix hF
  obtain ⟨p5,k4,p6,k5,rfl,s4,s5⟩:=qae hr2
  refine zxe hp1 hq1 he1 rfl (zc 0 (hc3.below h.below) rfl (zcB h hF (qmz (qfY y1 (h.oldS s4) (h.oldS s5)) (h.old ha2)) rfl fun r1 w2 h hF=>qcH (qh rfl hF ?_ ?_)))<;>intro hF
  ·refine X0 5 rfl ?_
   obtain rfl:=qb hF;replace hF:=hK1
   exact ri h hF rfl
  exact X0 6 rfl (rK ⟨_,hF,rfl,h⟩ rfl)
 refine qq rfl ?_
 obtain rfl:=qb hF;replace hF:=hK1
 exact X0 4 rfl (ri h hF rfl)
def qax (n:Nat) (s:(List qG)) (f_0:qG):Option Bool :=
 (qbc n s f_0).bind fun r1 =>
 some (decide (r1 ≥ 0))
theorem qem {s:(List qG)} {f_0:qG} (ha1:Ro w s cs1) {p2:Option Addr} (ha2:Ro w (some f_0) [.pointer p2]) {r:Bool} (hF:qax n s f_0=some r):RetV Tryz.prog 292 [GoT.v (List qG) cs1,.func (.func 293) #[] #[.pointer p2]] w r:=by
 obtain ⟨p1,k1,rfl,s1⟩:=ha1
 obtain ⟨b1,o_1,cs2,rfl,-,hr1,hc1⟩:=PtR.get ha2 rfl
 obtain ⟨p3,k2,p4,k3,rfl,s2,s3⟩:=qae hr1
 exact zV 9 Tryz.func292 rfl fun h=>X0 8 rfl (zcI h hF (qeV ⟨_,_,rfl,(h.oldS s1)⟩ (h.old ha2)) rfl fun r1 w1 h hF=>X0 3 rfl (rb h hF rfl))
def qcu (c:qw):Nat→Int→Option (Flow Bool Int)
 | 0,_=>none
 | n+1,i1 =>
  bif decide (i1<(c.Au.length:Int)) then
   (idx c.Au i1).bind fun y1 =>
   (qh7 n c y1).bind fun r1 =>
   bif (!r1) then some (.ret false) else
   (subS c.Au 0 i1).bind fun x1 =>
   (qax n x1 y1).bind fun r2 =>
   bif r2 then some (.ret false) else
   qcu c n (W64 (i1+1))
  else
   some (.nxt i1)
def qgL (n:Nat) (c:qw):Option Bool :=
 (qcu c n 0).bind fun o=>match o with
 | .ret r=>some r
 | .nxt _ =>
  some (decide ((c.Au.length:Int)≤8))
theorem qnz {c:qw} (ha1:Ro w c cs1) {r:Bool} (hF:qgL n c=some r):RetV Tryz.prog 281 [GoT.v qw cs1] w r:=by
 obtain ⟨p1,k1,p2,k2,p3,k3,rfl,s1,s2,s3⟩:=qad ha1
 refine zV 30 Tryz.func281 rfl fun h=>zSR (qv h rfl rfl fun w1 bb1 h=>X1 10 0 h rfl ?_)
 obtain ⟨o1,hF,hK1⟩:=qc hF
 refine qm (rL (fun m e w'=>∃ (i1:Int),qcu c m i1=some o1∧e=[(1,.pointer (some ⟨bb1,0,none⟩)),(6,.slice p2 c.Au.length k2),(7,.int .i64 (c.Au.length:Int)),(8,.int .i64 i1)]∧SH w w' [Ch.box bb1 (qee c p1 p2 p3 k1 k2 k3) 168]) n ⟨_,hF,rfl,h⟩ rfl ?_)
 rintro m1 e1 w2 ⟨i1,hF,rfl,h⟩
 rcases m1 with _|m1
 ·cases hF
 refine X0 5 rfl (qh rfl hF ?_ ?_)<;>intro hF
 ·refine X0 6 rfl ?_
  obtain ⟨y1,hy1,hF,he1,b1,_,q1,cs2,hp1,hq1,hr1,hc2⟩:=s2.ix hF
  obtain ⟨p4,k4,p5,k5,rfl,s4,s5⟩:=qae hr1
  refine zxe hp1 hq1 he1 rfl (zc 0 (hc2.below h.below) rfl (qp qa h rfl rfl rfl fun w3 bb2 h=>zp1 rfl (zs 0 h rfl fun w4 h=>X2 5 1 0 h rfl (zcB h hF (qoB (h.old ha1) (qfY y1 (h.oldS s4) (h.oldS s5))) rfl fun r1 w5 h hF=>zp2 rfl (qj (t:=17) hF rfl ?_ ?_)))))<;>intro hF
  ·refine X0 8 rfl (qb0 rfl rfl (X0 4 rfl ?_))
   obtain rfl:=qb hF;replace hF:=hK1
   exact rb h hF rfl
  refine X1 7 1 h rfl ?_
  obtain ⟨x1,hx1,hF⟩:=qc hF
  obtain ⟨p6,k6,hp2,hk1,hl1,g1⟩:=quR (h.oldS s2) hx1
  refine r_v (qrs qa rfl rfl rfl (quZ g1 rfl) hp2 hk1 hl1 rfl rfl rfl rfl) rfl ?_
  have s6:=qvz s2 hx1 hp2 hk1
  refine X0 3 rfl (zcB h hF (qem ⟨_,_,rfl,(h.oldS s6)⟩ (qgS (x:=y1) 0 h rfl (qfY y1 (h.oldS s4) (h.oldS s5)))) rfl fun r2 w6 h hF=>X0 2 rfl (qh rfl hF ?_ ?_))<;>intro hF
  ·refine X0 4 rfl ?_
   obtain rfl:=qb hF;replace hF:=hK1
   exact rb h hF rfl
  refine X0 6 rfl ?_
  replace h:=h.pick [1] rfl
  exact rK ⟨_,hF,rfl,h⟩ rfl
 refine qq rfl ?_
 obtain rfl:=qb hF;replace hF:=hK1
 exact X1 8 0 h rfl (rb h hF rfl)
def qka (_:Nat) (a:qG) (v0:Int):Option Bool :=
 some (a.Bf==v0)
theorem qoA {a:qG} {v0:Int} (ha1:Ro w a cs1) {p3:Option Addr} (ha2:Ro w (some v0) [.pointer p3]) {r:Bool} (hF:qka n a v0=some r):RetV Tryz.prog 306 [GoT.v qG cs1,.pointer p3] w r:=by
 obtain ⟨p1,k1,p2,k2,rfl,s1,s2⟩:=qae ha1
 obtain ⟨b1,o_1,cs2,rfl,-,hr1,hc1⟩:=PtR.get ha2 rfl
 obtain rfl:=hr1
 exact zV 8 Tryz.func306 rfl fun h=>zSR (qv h rfl rfl fun w1 bb1 h=>X1 6 0 h rfl (zc 0 (hc1.below h.below) rfl (X0 3 rfl (rb h hF rfl))))
def qab (s:(List qG)) (f_0:Int):Nat→Int→Option (Flow Int Int)
 | 0,_=>none
 | n+1,i1 =>
  bif decide (i1<(s.length:Int)) then
   (idx s i1).bind fun y1 =>
   (qka n y1 f_0).bind fun r1 =>
   bif r1 then some (.ret i1) else
   qab s f_0 n (W64 (i1+1))
  else
   some (.nxt i1)
def qby (n:Nat) (s:(List qG)) (f_0:Int):Option Int :=
 (qab s f_0 n 0).bind fun o=>match o with
 | .ret r=>some r
 | .nxt _ =>
  some (-1)
theorem qfH {s:(List qG)} {f_0:Int} (ha1:Ro w s cs1) {p2:Option Addr} (ha2:Ro w (some f_0) [.pointer p2]) {r:Int} (hF:qby n s f_0=some r):RetV Tryz.prog 305 [GoT.v (List qG) cs1,.func (.func 306) #[] #[.pointer p2]] w r:=by
 obtain ⟨p1,k1,rfl,s1⟩:=ha1
 obtain ⟨b1,o_1,cs2,rfl,-,hr1,hc1⟩:=PtR.get ha2 rfl
 obtain rfl:=hr1
 refine zV 19 Tryz.func305 rfl fun h=>X0 11 rfl ?_
 obtain ⟨o1,hF,hK1⟩:=qc hF
 refine qm (rL (fun m e w'=>∃ (i1:Int),qab s f_0 m i1=some o1∧e=[(0,.slice p1 s.length k1),(1,.func (.func 306) #[] #[.pointer (some ⟨b1,o_1,none⟩)]),(7,.int .i64 (s.length:Int)),(8,.int .i64 i1)]∧SH w w' []) n ⟨_,hF,rfl,h⟩ rfl ?_)
 rintro m1 e1 w1 ⟨i1,hF,rfl,h⟩
 rcases m1 with _|m1
 ·cases hF
 refine X0 5 rfl (qh rfl hF ?_ ?_)<;>intro hF
 ·refine X0 13 rfl ?_
  obtain ⟨y1,hy1,hF,he1,b2,_,q1,cs3,hp1,hq1,hr2,hc3⟩:=s1.ix hF
  obtain ⟨p3,k2,p4,k3,rfl,s2,s3⟩:=qae hr2
  refine zxe hp1 hq1 he1 rfl (zc 0 (hc3.below h.below) rfl (zcB h hF (qoA (qfY y1 (h.oldS s2) (h.oldS s3)) (h.old ha2)) rfl fun r1 w2 h hF=>qcH (qh rfl hF ?_ ?_)))<;>intro hF
  ·refine X0 5 rfl ?_
   obtain rfl:=qb hF;replace hF:=hK1
   exact ri h hF rfl
  exact X0 6 rfl (rK ⟨_,hF,rfl,h⟩ rfl)
 refine qq rfl ?_
 obtain rfl:=qb hF;replace hF:=hK1
 exact X0 4 rfl (ri h hF rfl)
def qbp (n:Nat) (s:(List qG)) (f_0:Int):Option Bool :=
 (qby n s f_0).bind fun r1 =>
 some (decide (r1 ≥ 0))
theorem qff {s:(List qG)} {f_0:Int} (ha1:Ro w s cs1) {p2:Option Addr} (ha2:Ro w (some f_0) [.pointer p2]) {r:Bool} (hF:qbp n s f_0=some r):RetV Tryz.prog 292 [GoT.v (List qG) cs1,.func (.func 306) #[] #[.pointer p2]] w r:=by
 obtain ⟨p1,k1,rfl,s1⟩:=ha1
 obtain ⟨b1,o_1,cs2,rfl,-,hr1,hc1⟩:=PtR.get ha2 rfl
 obtain rfl:=hr1
 exact zV 9 Tryz.func292 rfl fun h=>X0 8 rfl (zcI h hF (qfH ⟨_,_,rfl,(h.oldS s1)⟩ (h.old ha2)) rfl fun r1 w1 h hF=>X0 3 rfl (rb h hF rfl))
def qds (n:Nat) (c:qw) (kind:Int):Option Bool :=
 (qbp n c.Au kind).bind fun r1 =>
 some r1
theorem qey {c:qw} {kind:Int} (ha1:Ro w c cs1) {r:Bool} (hF:qds n c kind=some r):RetV Tryz.prog 295 [GoT.v qw cs1,.int .i64 kind] w r:=by
 obtain ⟨p1,k1,p2,k2,p3,k3,rfl,s1,s2,s3⟩:=qad ha1
 exact zV 9 Tryz.func295 rfl fun h=>zSR (qv h rfl rfl fun w1 bb1 h=>qv h rfl rfl fun w2 bb2 h=>X1 7 1 h rfl (zcB h hF (qff ⟨_,_,rfl,(h.oldS s2)⟩ (qgS (x:=kind) 0 h rfl rfl)) rfl fun r1 w3 h hF=>X0 2 rfl (rb h hF rfl)))
def qbd (a_0:qw):Nat→Int→Int→Option (Int × Int)
 | 0,_,_=>none
 | n+1,i1,i2 =>
  bif decide (i2<(a_0.Bd.length:Int)) then
   (idx a_0.Bd i2).bind fun y1 =>
   bif y1.Br then qbd a_0 n (W64 (i1+1)) (W64 (i2+1)) else
   qbd a_0 n i1 (W64 (i2+1))
  else
   some (i1,i2)
def qf9 (n:Nat) (a_0:qw):Option Bool :=
 (qbd a_0 n 0 0).bind fun o=>match o with
 | (i1,_) =>
  bif (a_0.Bf==1) then
   bif (i1==0) then
    (qew n a_0).bind fun r1 =>
    (shlS 1 r1).bind fun y2 =>
    bif ((a_0.Bo.length:Int)==y2) then
     (qbM n a_0.Bo 0 1).bind fun r2 =>
     some r2
    else
     some false
   else
    some false
  else
   bif (a_0.Bf==2) then
    bif (i1==1) then
     bif ((a_0.Bo.length:Int)==0) then
      (qds n a_0 1).bind fun r3 =>
      bif (!r3) then
       (qds n a_0 2).bind fun r4 =>
       (qds n a_0 3).bind fun r5 =>
       some (!(r4==r5))
      else
       some false
     else
      some false
    else
     some false
   else
    bif (a_0.Bf==3) then
     bif (i1==1) then
      bif ((a_0.Bo.length:Int)==0) then
       (qds n a_0 1).bind fun r6 =>
       bif r6 then
        (qds n a_0 2).bind fun r7 =>
        bif r7 then
         (qds n a_0 3).bind fun r8 =>
         some (!r8)
        else
         some false
       else
        some false
      else
       some false
     else
      some false
    else
     some false
theorem qm4 {a_0:qw} (ha1:Ro w a_0 cs1) {r:Bool} (hF:qf9 n a_0=some r):RetV Tryz.prog 282 [GoT.v qw cs1] w r:=by
 obtain ⟨p1,k1,p2,k2,p3,k3,rfl,s1,s2,s3⟩:=qad ha1
 refine zV 83 Tryz.func282 rfl fun h=>zSR (qv h rfl rfl fun w1 bb1 h=>X1 14 0 h rfl ?_)
 obtain ⟨o1,hF,hK1⟩:=qc hF
 refine qm (rL (fun m e w'=>∃ (i1:Int) (i2:Int),qbd a_0 m i1 i2=some o1∧e=[(1,.pointer (some ⟨bb1,0,none⟩)),(3,.int .i64 i1),(7,.slice p1 a_0.Bd.length k1),(8,.int .i64 (a_0.Bd.length:Int)),(9,.int .i64 i2)]∧SH w w' [Ch.box bb1 (qee a_0 p1 p2 p3 k1 k2 k3) 168]) n ⟨_,_,hF,rfl,h⟩ rfl ?_)
 rintro m1 e1 w2 ⟨i1,i2,hF,rfl,h⟩
 rcases m1 with _|m1
 ·cases hF
 refine X0 5 rfl (qh rfl hF ?_ ?_)<;>intro hF
 ·refine zKSBSR ?_
  obtain ⟨y1,hy1,hF,he1,b1,_,q1,cs2,hp1,hq1,hr1,hc2⟩:=s1.ix hF
  obtain rfl:=qaZ hr1
  refine zxe hp1 hq1 he1 rfl (zc 0 (hc2.below h.below) rfl (qp qa h rfl rfl rfl fun w3 bb2 h=>zs 0 h rfl fun w4 h=>X1 6 0 h rfl (qh rfl hF ?_ ?_)))<;>intro hF
  ·refine X0 10 rfl ?_
   replace h:=h.pick [1] rfl
   exact rK ⟨_,_,hF,rfl,h⟩ rfl
  refine X0 6 rfl ?_
  replace h:=h.pick [1] rfl
  exact rK ⟨_,_,hF,rfl,h⟩ rfl
 refine qq rfl ?_
 obtain rfl:=qb hF;replace hF:=hK1
 refine X1 12 0 h rfl (qh rfl hF ?_ ?_)<;>intro hF
 ·refine qcP (rD (zd3 rfl (qaT (t:=24) hF rfl ?_ ?_)))<;>intro hF
  ·refine Y1 4 0 h rfl ?_
   refine Y1 4 0 h rfl ?_
   refine Y0 1 rfl ?_
   obtain ⟨r1,hr2,hF⟩:=qc hF
   refine qa0 r1 (vsI _) (cB 294 rfl) (fun _ hb=>qhE ((h.ext hb).old ha1) hr2) rfl rfl rfl rfl (Y0 1 rfl ?_)
   obtain ⟨y2,hx1,hF⟩:=qc hF
   obtain ⟨g1,hx1⟩:=qsL hx1
   refine d_v (fun _ hb=>qzr g1 rfl rfl) rfl ?_
   rw [hx1]
   refine Y0 4 rfl (qaT (t:=33) hF rfl ?_ ?_)<;>intro hF
   ·refine Y1 4 0 h rfl ?_
    refine Y0 1 rfl ?_
    obtain ⟨r2,hr3,hF⟩:=qc hF
    exact qa0 r2 (vsB _) (cB 106 rfl) (fun _ hb=>qcd ⟨_,_,rfl,((h.ext hb).oldS s3)⟩ hr3) rfl rfl rfl rfl (zd2 rfl (dN h fun w5 h=>rb h hF rfl))
   exact Y0 5 rfl (dN h fun w6 h=>rb h hF rfl)
  exact Y0 14 rfl (dN h fun w7 h=>rb h hF rfl)
 refine X0 5 rfl (qh rfl hF ?_ ?_)<;>intro hF
 ·refine qcP (rD (zd3 rfl (qaT (t:=42) hF rfl ?_ ?_)))<;>intro hF
  ·refine Y1 4 0 h rfl ?_
   refine Y0 6 rfl (qaT (t:=48) hF rfl ?_ ?_)<;>intro hF
   ·refine Y1 2 0 h rfl ?_
    refine Y0 1 rfl ?_
    obtain ⟨r3,hr4,hF⟩:=qc hF
    refine qa0 r3 (vsB _) (cB 295 rfl) (fun _ hb=>qey ((h.ext hb).old ha1) hr4) rfl rfl rfl rfl (Y0 4 rfl (qaT (t:=53) hF rfl ?_ ?_))<;>intro hF
    ·refine Y1 2 0 h rfl ?_
     refine Y0 1 rfl ?_
     obtain ⟨r4,hr5,hF⟩:=qc hF
     refine qa0 r4 (vsB _) (cB 295 rfl) (fun _ hb=>qey ((h.ext hb).old ha1) hr5) rfl rfl rfl rfl (Y1 2 0 h rfl ?_)
     refine Y0 1 rfl ?_
     obtain ⟨r5,hr6,hF⟩:=qc hF
     exact qa0 r5 (vsB _) (cB 295 rfl) (fun _ hb=>qey ((h.ext hb).old ha1) hr6) rfl rfl rfl rfl (Y0 4 rfl (dN h fun w8 h=>rb h hF rfl))
    exact Y0 7 rfl (dN h fun w9 h=>rb h hF rfl)
   exact Y0 12 rfl (dN h fun w10 h=>rb h hF rfl)
  exact Y0 18 rfl (dN h fun w11 h=>rb h hF rfl)
 refine X0 5 rfl (qh rfl hF ?_ ?_)<;>intro hF
 ·refine X0 5 rfl (qj (t:=64) hF rfl ?_ ?_)<;>intro hF
  ·refine X1 10 0 h rfl (qj (t:=70) hF rfl ?_ ?_)<;>intro hF
   ·refine X1 3 0 h rfl (zcB h hF (qey (h.old ha1)) rfl fun r6 w12 h hF=>zp2 rfl (qj (t:=74) hF rfl ?_ ?_))<;>intro hF
    ·refine X1 3 0 h rfl (zcB h hF (qey (h.old ha1)) rfl fun r7 w13 h hF=>zp2 rfl (qj (t:=78) hF rfl ?_ ?_))<;>intro hF
     ·exact X1 3 0 h rfl (zcB h hF (qey (h.old ha1)) rfl fun r8 w14 h hF=>X0 5 rfl (rb h hF rfl))
     exact X0 6 rfl (rb h hF rfl)
    exact X0 10 rfl (rb h hF rfl)
   exact X0 14 rfl (rb h hF rfl)
  exact X0 20 rfl (rb h hF rfl)
 exact X0 6 rfl (rb h hF rfl)
def qlr (n:Nat) (c:qw):Option Bool :=
 (qik n c.Bb).bind fun r1 =>
 bif r1 then
  (qkl n c.Bd).bind fun r2 =>
  bif r2 then
   (qgL n c).bind fun r3 =>
   bif r3 then
    (qaR n c.Ca 0 100000).bind fun r4 =>
    bif r4 then
     (qaR n c.Bu 0 100000).bind fun r5 =>
     bif r5 then
      (qf9 n c).bind fun r6 =>
      some r6
     else
      some false
    else
     some false
   else
    some false
  else
   some false
 else
  some false
theorem qrg {c:qw} (ha1:Ro w c cs1) {r:Bool} (hF:qlr n c=some r):RetV Tryz.prog 264 [GoT.v qw cs1] w r:=by
 obtain ⟨p1,k1,p2,k2,p3,k3,rfl,s1,s2,s3⟩:=qad ha1
 refine zV 29 Tryz.func264 rfl fun h=>zSR (qv h rfl rfl fun w1 bb1 h=>X1 6 0 h rfl (zcB h hF qkM rfl fun r1 w2 h hF=>zp1 rfl (qj (t:=6) hF rfl ?_ ?_)))<;>intro hF
 ·refine X1 5 0 h rfl (zcB h hF (qqv ⟨_,_,rfl,(h.oldS s1)⟩) rfl fun r2 w3 h hF=>zp2 rfl (qj (t:=11) hF rfl ?_ ?_))<;>intro hF
  ·refine X1 3 0 h rfl (zcB h hF (qnz (h.old ha1)) rfl fun r3 w4 h hF=>zp2 rfl (qj (t:=15) hF rfl ?_ ?_))<;>intro hF
   ·refine X1 5 0 h rfl (zcB h hF qaz rfl fun r4 w5 h hF=>zp2 rfl (qj (t:=20) hF rfl ?_ ?_))<;>intro hF
    ·refine X1 5 0 h rfl (zcB h hF qaz rfl fun r5 w6 h hF=>zp2 rfl (qj (t:=25) hF rfl ?_ ?_))<;>intro hF
     ·exact X1 3 0 h rfl (zcB h hF (qm4 (h.old ha1)) rfl fun r6 w7 h hF=>X0 3 rfl (rb h hF rfl))
     exact X0 5 rfl (rb h hF rfl)
    exact X0 10 rfl (rb h hF rfl)
   exact X0 15 rfl (rb h hF rfl)
  exact X0 19 rfl (rb h hF rfl)
 exact X0 24 rfl (rb h hF rfl)
def qcO (l:qn):Nat→(List ByteArray)→Int→Option (Flow Bool ((List ByteArray) × Int))
 | 0,_,_=>none
 | n+1,x1,i1 =>
  bif decide (i1<(l.As.length:Int)) then
   (idx l.As i1).bind fun y1 =>
   (qlr n y1).bind fun r1 =>
   bif (!r1) then some (.ret false) else
   (appS x1 ([y1.Bb]:List ByteArray)).bind fun x2 =>
   qcO l n x2 (W64 (i1+1))
  else
   some (.nxt (x1,i1))
def qiK (n:Nat) (l:qn):Option Bool :=
 (qcO l n ([]:List ByteArray) 0).bind fun o=>match o with
 | .ret r=>some r
 | .nxt (x1,_) =>
  bif decide ((l.As.length:Int)≤8) then
   (qej n x1).bind fun r2 =>
   some r2
  else
   some false
theorem qo7 {l:qn} (ha1:Ro w l cs1) {r:Bool} (hF:qiK n l=some r):RetV Tryz.prog 239 [GoT.v qn cs1] w r:=by
 obtain ⟨p1,k1,rfl,s1⟩:=qbz ha1
 refine zV 30 Tryz.func239 rfl fun h=>zSR (qv h rfl rfl fun w1 bb1 h=>X1 14 0 h rfl ?_)
 replace h:=h.nil (α:=ByteArray)
 obtain ⟨o1,hF,hK1⟩:=qc hF
 refine qm (rL (fun m e w'=>∃ (S1:Nat→Prop) (p2:Option Addr) (ln1:Nat) (k2:Nat) (x1:(List ByteArray)) (i1:Int),qcO l m x1 i1=some o1∧e=[(1,.pointer (some ⟨bb1,0,none⟩)),(3,.slice p2 ln1 k2),(7,.slice p1 l.As.length k1),(8,.int .i64 (l.As.length:Int)),(9,.int .i64 i1)]∧SH w w' [Ch.own S1 (x1:List ByteArray) [.slice p2 ln1 k2],Ch.box bb1 [.slice p1 l.As.length k1] 44]) n ⟨_,_,_,_,_,_,hF,rfl,h⟩ rfl ?_)
 rintro m1 e1 w2 ⟨S1,p2,ln1,k2,x1,i1,hF,rfl,h⟩
 obtain rfl:=(h.sl 0 rfl).2
 rcases m1 with _|m1
 ·cases hF
 refine X0 5 rfl (qh rfl hF ?_ ?_)<;>intro hF
 ·refine zKSBSR ?_
  obtain ⟨y1,hy1,hF,he1,b1,_,q1,cs2,hp1,hq1,hr1,hc2⟩:=s1.ix hF
  obtain ⟨p3,k3,p4,k4,p5,k5,rfl,s2,s3,s4⟩:=qad hr1
  refine zxe hp1 hq1 he1 rfl (zc 0 (hc2.below h.below) rfl (qp qa h rfl rfl rfl fun w3 bb2 h=>zs 0 h rfl fun w4 h=>X1 5 0 h rfl (zcB h hF (qrg (qkJ y1 (h.oldS s2) (h.oldS s3) (h.oldS s4))) rfl fun r1 w5 h hF=>X0 2 rfl (qh rfl hF ?_ ?_))))<;>intro hF
  ·refine X0 4 rfl ?_
   obtain rfl:=qb hF;replace hF:=hK1
   exact rb h hF rfl
  refine X1 5 0 h rfl (qL qa [.tmp 18] _ ([y1.Bb]:List ByteArray) h rfl rfl rfl rfl rfl rfl rfl rfl rfl ⟨rfl,trivial⟩ rfl fun w6 p6 S2 h=>?_)
  obtain ⟨x2,hx1,hF⟩:=qc hF
  obtain ⟨g1,hx1⟩:=qaw hx1
  refine qcC qa 2 h rfl (h.sl 0 rfl).1 (h.sl 0 rfl).2 rfl rfl rfl rfl rfl rfl rfl rfl rfl g1 hx1 rfl fun w7 p7 k6 S3 h=>X0 7 rfl ?_
  replace h:=h.pick [2,3] rfl
  exact rK ⟨_,_,_,_,_,_,hF,rfl,h⟩ rfl
 refine qq rfl ?_
 obtain rfl:=qb hF;replace hF:=hK1
 refine X1 7 1 h rfl (qj (t:=26) hF rfl ?_ ?_)<;>intro hF
 ·exact X0 3 rfl (zcB h hF (qfF (h.own 0 rfl)) rfl fun r2 w8 h hF=>X0 3 rfl (rb h hF rfl))
 exact X0 5 rfl (rb h hF rfl)
def qbq (d:qd):Nat→(List ByteArray)→Int→Option ((List ByteArray) × Int)
 | 0,_,_=>none
 | n+1,x3,i2 =>
  bif decide (i2<(d.Aj.length:Int)) then
   (idx d.Aj i2).bind fun y2 =>
   (appS x3 ([y2.Bb]:List ByteArray)).bind fun x4 =>
   qbq d n x4 (W64 (i2+1))
  else
   some (x3,i2)
def qbk (d:qd):Nat→(List ByteArray)→Int→Option ((List ByteArray) × Int)
 | 0,_,_=>none
 | n+1,x1,i1 =>
  bif decide (i1<(d.Aa.length:Int)) then
   (idx d.Aa i1).bind fun y1 =>
   (appS x1 ([y1.Bb]:List ByteArray)).bind fun x2 =>
   qbk d n x2 (W64 (i1+1))
  else
   some (x1,i1)
def qe9 (n:Nat) (d:qd):Option Bool :=
 (qbk d n ([]:List ByteArray) 0).bind fun o=>match o with
 | (x1,_) =>
  (qbq d n ([]:List ByteArray) 0).bind fun o=>match o with
  | (x3,_) =>
   bif decide ((x1.length:Int)≤14) then
    bif decide ((d.Ak.length:Int)≤30) then
     bif decide ((x3.length:Int)≤8) then
      (qej n x1).bind fun r1 =>
      bif r1 then
       (qej n d.Ak).bind fun r2 =>
       bif r2 then
        (qej n x3).bind fun r3 =>
        some r3
       else
        some false
      else
       some false
     else
      some false
    else
     some false
   else
    some false
theorem qlV {d:qd} (ha1:Ro w d cs1) {r:Bool} (hF:qe9 n d=some r):RetV Tryz.prog 240 [GoT.v qd cs1] w r:=by
 obtain ⟨p1,k1,p2,k2,p3,k3,rfl,s1,s2,s3⟩:=qay ha1
 refine zV 62 Tryz.func240 rfl fun h=>zSR (qv h rfl rfl fun w1 bb1 h=>X1 15 0 h rfl ?_)
 replace h:=h.nil (α:=ByteArray)
 obtain ⟨o1,hF,hK1⟩:=qc hF
 refine qm (rL (fun m e w'=>∃ (S1:Nat→Prop) (p4:Option Addr) (ln1:Nat) (k4:Nat) (x1:(List ByteArray)) (i1:Int),qbk d m x1 i1=some o1∧e=[(1,.pointer (some ⟨bb1,0,none⟩)),(3,.slice p4 ln1 k4),(4,.slice none 0 0),(10,.slice p1 d.Aa.length k1),(11,.int .i64 (d.Aa.length:Int)),(12,.int .i64 i1)]∧SH w w' [Ch.own S1 (x1:List ByteArray) [.slice p4 ln1 k4],Ch.box bb1 (qaS d p1 p2 p3 k1 k2 k3) 48]) n ⟨_,_,_,_,_,_,hF,rfl,h⟩ rfl ?_)
 rintro m1 e1 w2 ⟨S1,p4,ln1,k4,x1,i1,hF,rfl,h⟩
 obtain rfl:=(h.sl 0 rfl).2
 rcases m1 with _|m1
 ·cases hF
 refine X0 5 rfl (qh rfl hF ?_ ?_)<;>intro hF
 ·refine zKSBSR ?_
  obtain ⟨y1,hy1,hF,he1,b1,_,q1,cs2,hp1,hq1,hr1,hc2⟩:=s1.ix hF
  obtain ⟨p5,k5,rfl,s4⟩:=qP hr1
  refine zxe hp1 hq1 he1 rfl (zc 0 (hc2.below h.below) rfl (qp qa h rfl rfl rfl fun w3 bb2 h=>zs 0 h rfl fun w4 h=>X1 5 0 h rfl (qL qa [.tmp 18] _ ([y1.Bb]:List ByteArray) h rfl rfl rfl rfl rfl rfl rfl rfl rfl ⟨rfl,trivial⟩ rfl fun w5 p6 S2 h=>?_)))
  obtain ⟨x2,hx1,hF⟩:=qc hF
  obtain ⟨g1,hx1⟩:=qaw hx1
  refine qcC qa 2 h rfl (h.sl 0 rfl).1 (h.sl 0 rfl).2 rfl rfl rfl rfl rfl rfl rfl rfl rfl g1 hx1 rfl fun w6 p7 k6 S3 h=>X0 7 rfl ?_
  replace h:=h.pick [2,3] rfl
  exact rK ⟨_,_,_,_,_,_,hF,rfl,h⟩ rfl
 refine qq rfl ?_
 obtain rfl:=qb hF;replace hF:=hK1
 refine X1 8 1 h rfl ?_
 replace h:=h.nil (α:=ByteArray)
 obtain ⟨o2,hF,hK2⟩:=qc hF
 refine qm (rL (fun m e w'=>∃ (S4:Nat→Prop) (p8:Option Addr) (ln2:Nat) (k7:Nat) (x3:(List ByteArray)) (i2:Int),qbq d m x3 i2=some o2∧e=[(1,.pointer (some ⟨bb1,0,none⟩)),(3,.slice p4 x1.length k4),(4,.slice p8 ln2 k7),(23,.slice p3 d.Aj.length k3),(24,.int .i64 (d.Aj.length:Int)),(25,.int .i64 i2)]∧SH w w' [Ch.own S4 (x3:List ByteArray) [.slice p8 ln2 k7],Ch.own S1 (x1:List ByteArray) [.slice p4 x1.length k4],Ch.box bb1 (qaS d p1 p2 p3 k1 k2 k3) 48]) n ⟨_,_,_,_,_,_,hF,rfl,h⟩ rfl ?_)
 rintro m2 e2 w7 ⟨S4,p8,ln2,k7,x3,i2,hF,rfl,h⟩
 obtain rfl:=(h.sl 0 rfl).2
 rcases m2 with _|m2
 ·cases hF
 refine X0 5 rfl (qh rfl hF ?_ ?_)<;>intro hF
 ·refine zKSBSR ?_
  obtain ⟨y2,hy2,hF,he2,b2,_,q2,cs3,hp2,hq2,hr2,hc4⟩:=s3.ix hF
  obtain rfl:=qaV hr2
  refine zxe hp2 hq2 he2 rfl (zc 0 (hc4.below h.below) rfl (qp qa h rfl rfl rfl fun w8 bb3 h=>zs 0 h rfl fun w9 h=>X1 5 0 h rfl (qL qa [.tmp 31] _ ([y2.Bb]:List ByteArray) h rfl rfl rfl rfl rfl rfl rfl rfl rfl ⟨rfl,trivial⟩ rfl fun w10 p9 S5 h=>?_)))
  obtain ⟨x4,hx2,hF⟩:=qc hF
  obtain ⟨g2,hx2⟩:=qaw hx2
  refine qcC qa 2 h rfl (h.sl 0 rfl).1 (h.sl 0 rfl).2 rfl rfl rfl rfl rfl rfl rfl rfl rfl g2 hx2 rfl fun w11 p10 k8 S6 h=>X0 7 rfl ?_
  replace h:=h.pick [2,3,4] rfl
  exact rK ⟨_,_,_,_,_,_,hF,rfl,h⟩ rfl
 refine qq rfl ?_
 obtain rfl:=qb hF;replace hF:=hK2
 refine X0 6 rfl (qj (t:=38) hF rfl ?_ ?_)<;>intro hF
 ·refine X1 10 2 h rfl (qj (t:=44) hF rfl ?_ ?_)<;>intro hF
  ·refine X0 8 rfl (qj (t:=49) hF rfl ?_ ?_)<;>intro hF
   ·refine X0 3 rfl (zcB h hF (qfF (h.own 1 rfl)) rfl fun r1 w12 h hF=>zp2 rfl (qj (t:=53) hF rfl ?_ ?_))<;>intro hF
    ·refine X1 5 2 h rfl (zcB h hF (qfF ⟨_,_,rfl,(h.oldS s2)⟩) rfl fun r2 w13 h hF=>zp2 rfl (qj (t:=58) hF rfl ?_ ?_))<;>intro hF
     ·exact X0 3 rfl (zcB h hF (qfF (h.own 0 rfl)) rfl fun r3 w14 h hF=>X0 3 rfl (rb h hF rfl))
     exact X0 5 rfl (rb h hF rfl)
    exact X0 10 rfl (rb h hF rfl)
   exact X0 14 rfl (rb h hF rfl)
  exact X0 19 rfl (rb h hF rfl)
 exact X0 25 rfl (rb h hF rfl)
def qgG (_:Nat) (list:(List qw)):Option Int :=
 some (list.length:Int)
theorem qlQ {list:(List qw)} (ha1:Ro w list cs1) {r:Int} (hF:qgG n list=some r):RetV Tryz.prog 266 [GoT.v (List qw) cs1] w r:=by
 obtain ⟨p1,k1,rfl,s1⟩:=ha1
 exact zV 5 Tryz.func266 rfl fun h=>X0 10 rfl (ri h hF rfl)
def qic (_:Nat) (list:(List ByteArray)):Option Int :=
 some (list.length:Int)
theorem qm6 {list:(List ByteArray)} (ha1:Ro w list cs1) {r:Int} (hF:qic n list=some r):RetV Tryz.prog 268 [GoT.v (List ByteArray) cs1] w r:=by
 obtain ⟨p1,k1,rfl,s1⟩:=ha1
 exact zV 5 Tryz.func268 rfl fun h=>X0 10 rfl (ri h hF rfl)
def qdG (n:Nat) (d:qd) (net:Int):Option Bool :=
 (qic n d.Ak).bind fun r1 =>
 (qaR n net 0 (W64 (r1-1))).bind fun r2 =>
 some r2
theorem qg4 {d:qd} {net:Int} (ha1:Ro w d cs1) {r:Bool} (hF:qdG n d net=some r):RetV Tryz.prog 242 [GoT.v qd cs1,.int .i64 net] w r:=by
 obtain ⟨p1,k1,p2,k2,p3,k3,rfl,s1,s2,s3⟩:=qay ha1
 exact zV 11 Tryz.func242 rfl fun h=>zSR (qv h rfl rfl fun w1 bb1 h=>X1 7 0 h rfl (zcI h hF (qm6 ⟨_,_,rfl,(h.oldS s2)⟩) rfl fun r1 w2 h hF=>zp1 rfl (zcB h hF qaz rfl fun r2 w3 h hF=>X0 2 rfl (rb h hF rfl))))
def qdt (n:Nat) (net:Int) (v0:qd):Option Bool :=
 (qdG n v0 net).bind fun r1 =>
 some (!r1)
theorem qkf {net:Int} {v0:qd} {p1:Option Addr} (ha1:Ro w (some v0) [.pointer p1]) {r:Bool} (hF:qdt n net v0=some r):RetV Tryz.prog 267 [.int .i64 net,.pointer p1] w r:=by
 obtain ⟨b1,o_1,cs1,rfl,-,hr1,hc1⟩:=PtR.get ha1 rfl
 obtain ⟨p2,k1,p3,k2,p4,k3,rfl,s1,s2,s3⟩:=qay hr1
 exact zV 8 Tryz.func267 rfl fun h=>X0 6 rfl (zc 0 (hc1.below h.below) rfl (zp1 rfl (zcB h hF (qg4 (qar v0 (h.oldS s1) (h.oldS s2) (h.oldS s3))) rfl fun r1 w1 h hF=>X0 3 rfl (rb h hF rfl))))
def qM (s:(List Int)) (f_0:qd):Nat→Int→Option (Flow Int Int)
 | 0,_=>none
 | n+1,i1 =>
  bif decide (i1<(s.length:Int)) then
   (idx s i1).bind fun y1 =>
   (qdt n y1 f_0).bind fun r1 =>
   bif r1 then some (.ret i1) else
   qM s f_0 n (W64 (i1+1))
  else
   some (.nxt i1)
def qa4 (n:Nat) (s:(List Int)) (f_0:qd):Option Int :=
 (qM s f_0 n 0).bind fun o=>match o with
 | .ret r=>some r
 | .nxt _ =>
  some (-1)
theorem qeI {s:(List Int)} {f_0:qd} (ha1:Ro w s cs1) {p2:Option Addr} (ha2:Ro w (some f_0) [.pointer p2]) {r:Int} (hF:qa4 n s f_0=some r):RetV Tryz.prog 162 [GoT.v (List Int) cs1,.func (.func 267) #[] #[.pointer p2]] w r:=by
 obtain ⟨p1,k1,rfl,s1⟩:=ha1
 obtain ⟨b1,o_1,cs2,rfl,-,hr1,hc1⟩:=PtR.get ha2 rfl
 obtain ⟨p3,k2,p4,k3,p5,k4,rfl,s2,s3,s4⟩:=qay hr1
 refine zV 19 Tryz.func162 rfl fun h=>X0 11 rfl ?_
 obtain ⟨o1,hF,hK1⟩:=qc hF
 refine qm (rL (fun m e w'=>∃ (i1:Int),qM s f_0 m i1=some o1∧e=[(0,.slice p1 s.length k1),(1,.func (.func 267) #[] #[.pointer (some ⟨b1,o_1,none⟩)]),(7,.int .i64 (s.length:Int)),(8,.int .i64 i1)]∧SH w w' []) n ⟨_,hF,rfl,h⟩ rfl ?_)
 rintro m1 e1 w1 ⟨i1,hF,rfl,h⟩
 rcases m1 with _|m1
 ·cases hF
 refine X0 5 rfl (qh rfl hF ?_ ?_)<;>intro hF
 ·refine X0 13 rfl ?_
  obtain ⟨y1,hy1,hF,he1,b2,_,q1,cs3,hp1,hq1,rfl,hc3⟩:=s1.ix hF
  refine zxe hp1 hq1 he1 rfl (zc 0 (hc3.below h.below) rfl (zcB h hF (qkf (h.old ha2)) rfl fun r1 w2 h hF=>qcH (qh rfl hF ?_ ?_)))<;>intro hF
  ·refine X0 5 rfl ?_
   obtain rfl:=qb hF;replace hF:=hK1
   exact ri h hF rfl
  exact X0 6 rfl (rK ⟨_,hF,rfl,h⟩ rfl)
 refine qq rfl ?_
 obtain rfl:=qb hF;replace hF:=hK1
 exact X0 4 rfl (ri h hF rfl)
def qaU (n:Nat) (s:(List Int)) (f_0:qd):Option Bool :=
 (qa4 n s f_0).bind fun r1 =>
 some (decide (r1 ≥ 0))
theorem qd4 {s:(List Int)} {f_0:qd} (ha1:Ro w s cs1) {p2:Option Addr} (ha2:Ro w (some f_0) [.pointer p2]) {r:Bool} (hF:qaU n s f_0=some r):RetV Tryz.prog 110 [GoT.v (List Int) cs1,.func (.func 267) #[] #[.pointer p2]] w r:=by
 obtain ⟨p1,k1,rfl,s1⟩:=ha1
 obtain ⟨b1,o_1,cs2,rfl,-,hr1,hc1⟩:=PtR.get ha2 rfl
 obtain ⟨p3,k2,p4,k3,p5,k4,rfl,s2,s3,s4⟩:=qay hr1
 exact zV 9 Tryz.func110 rfl fun h=>X0 8 rfl (zcI h hF (qeI ⟨_,_,rfl,(h.oldS s1)⟩ (h.old ha2)) rfl fun r1 w1 h hF=>X0 3 rfl (rb h hF rfl))
def qd8 (n:Nat) (d:qd) (l:qn) (x:qi):Option Bool :=
 (qgG n l.As).bind fun r1 =>
 (qaR n x.Bt 0 (W64 (r1-1))).bind fun r2 =>
 bif r2 then
  (idx l.As x.Bt).bind fun y1 =>
  bif ((x.Ak.length:Int)==(y1.Bd.length:Int)) then
   (qaU n x.Ak d).bind fun r3 =>
   some (!r3)
  else
   some false
 else
  some false
theorem qli {d:qd} {l:qn} {x:qi} (ha1:Ro w d cs1) (ha2:Ro w l cs2) (ha3:Ro w x cs3) {r:Bool} (hF:qd8 n d l x=some r):RetV Tryz.prog 241 [GoT.v qd cs1,GoT.v qn cs2,GoT.v qi cs3] w r:=by
 obtain ⟨p1,k1,p2,k2,p3,k3,rfl,s1,s2,s3⟩:=qay ha1
 obtain ⟨p4,k4,rfl,s4⟩:=qbz ha2
 obtain ⟨p5,k5,rfl,s5⟩:=qP ha3
 refine zV 35 Tryz.func241 rfl fun h=>zSR (qv h rfl rfl fun w1 bb1 h=>qv h rfl rfl fun w2 bb2 h=>qv h rfl rfl fun w3 bb3 h=>X0 3 rfl (rD (Y1 2 0 h rfl ?_)))
 refine Y1 2 1 h rfl ?_
 obtain ⟨r1,hr1,hF⟩:=qc hF
 refine qa0 r1 (vsI _) (cB 266 rfl) (fun _ hb=>qlQ ⟨_,_,rfl,((h.ext hb).oldS s4)⟩ hr1) rfl rfl rfl rfl (zd1 rfl ?_)
 obtain ⟨r2,hr2,hF⟩:=qc hF
 refine qa0 r2 (vsB _) (cB 159 rfl) (fun _ hb=>qaz  hr2) rfl rfl rfl rfl (zd1 rfl (qaT (t:=14) hF rfl ?_ ?_))<;>intro hF
 ·refine Y1 4 0 h rfl ?_
  refine Y1 6 1 h rfl ?_
  refine Y1 4 0 h rfl ?_
  refine Y0 1 rfl ?_
  obtain ⟨y1,hy1,hF,he1,b1,_,q1,cs4,hp1,hq1,hr3,hc1⟩:=s4.ix hF
  obtain ⟨p6,k6,p7,k7,p8,k8,rfl,s6,s7,s8⟩:=qad hr3
  refine zdxe hp1 hq1 he1 rfl (Y0 3 rfl (zdc 2 (hc1.below h.below) rfl (Y0 6 rfl (qaT (t:=28) hF rfl ?_ ?_))))<;>intro hF
  ·refine Y1 4 0 h rfl ?_
   refine Y0 3 rfl ?_
   obtain ⟨r3,hr4,hF⟩:=qc hF
   exact qa0 r3 (vsB _) (cB 110 rfl) (fun _ hb=>qd4 ⟨_,_,rfl,((h.ext hb).oldS s5)⟩ (qgS (x:=d) 2 (h.ext hb) rfl ((h.ext hb).old ha1)) hr4) rfl rfl rfl rfl (Y0 4 rfl (dN h fun w4 h=>rb h hF rfl))
  exact Y0 7 rfl (dN h fun w5 h=>rb h hF rfl)
 exact Y0 21 rfl (dN h fun w6 h=>rb h hF rfl)
def qj6 (_:Nat) (a_n:Int):Option Bool :=
 some (a_n != 1)
theorem qoD {a_n:Int}  {r:Bool} (hF:qj6 n a_n=some r):RetV Tryz.prog 244 [.int .i64 a_n] w r:=by
 exact zV 5 Tryz.func244 rfl fun h=>X0 10 rfl (rb h hF rfl)
def qao (s:(List Int)):Nat→Int→Option (Flow Int Int)
 | 0,_=>none
 | n+1,i1 =>
  bif decide (i1<(s.length:Int)) then
   (idx s i1).bind fun y1 =>
   (qj6 n y1).bind fun r1 =>
   bif r1 then some (.ret i1) else
   qao s n (W64 (i1+1))
  else
   some (.nxt i1)
def qb7 (n:Nat) (s:(List Int)):Option Int :=
 (qao s n 0).bind fun o=>match o with
 | .ret r=>some r
 | .nxt _ =>
  some (-1)
theorem qgP {s:(List Int)} (ha1:Ro w s cs1) {r:Int} (hF:qb7 n s=some r):RetV Tryz.prog 269 [GoT.v (List Int) cs1,.func (.func 244) #[] #[]] w r:=by
 obtain ⟨p1,k1,rfl,s1⟩:=ha1
 refine zV 19 Tryz.func269 rfl fun h=>X0 11 rfl ?_
 obtain ⟨o1,hF,hK1⟩:=qc hF
 refine qm (rL (fun m e w'=>∃ (i1:Int),qao s m i1=some o1∧e=[(0,.slice p1 s.length k1),(1,.func (.func 244) #[] #[]),(7,.int .i64 (s.length:Int)),(8,.int .i64 i1)]∧SH w w' []) n ⟨_,hF,rfl,h⟩ rfl ?_)
 rintro m1 e1 w1 ⟨i1,hF,rfl,h⟩
 rcases m1 with _|m1
 ·cases hF
 refine X0 5 rfl (qh rfl hF ?_ ?_)<;>intro hF
 ·refine X0 13 rfl ?_
  obtain ⟨y1,hy1,hF,he1,b1,_,q1,cs2,hp1,hq1,rfl,hc2⟩:=s1.ix hF
  refine zxe hp1 hq1 he1 rfl (zc 0 (hc2.below h.below) rfl (zcB h hF qoD rfl fun r1 w2 h hF=>qcH (qh rfl hF ?_ ?_)))<;>intro hF
  ·refine X0 5 rfl ?_
   obtain rfl:=qb hF;replace hF:=hK1
   exact ri h hF rfl
  exact X0 6 rfl (rK ⟨_,hF,rfl,h⟩ rfl)
 refine qq rfl ?_
 obtain rfl:=qb hF;replace hF:=hK1
 exact X0 4 rfl (ri h hF rfl)
def qbJ (n:Nat) (s:(List Int)):Option Bool :=
 (qb7 n s).bind fun r1 =>
 some (decide (r1 ≥ 0))
theorem qf6 {s:(List Int)} (ha1:Ro w s cs1) {r:Bool} (hF:qbJ n s=some r):RetV Tryz.prog 243 [GoT.v (List Int) cs1,.func (.func 244) #[] #[]] w r:=by
 obtain ⟨p1,k1,rfl,s1⟩:=ha1
 exact zV 9 Tryz.func243 rfl fun h=>X0 8 rfl (zcI h hF (qgP ⟨_,_,rfl,(h.oldS s1)⟩) rfl fun r1 w1 h hF=>X0 3 rfl (rb h hF rfl))
def qcq (a_1:qd):Nat→(List Int)→Int→Option (Flow Bool ((List Int) × Int))
 | 0,_,_=>none
 | n+1,x3,i2 =>
  bif decide (i2<(a_1.Aj.length:Int)) then
   (idx a_1.Aj i2).bind fun y5 =>
   (
    bif (y5.Bv != 1) then
     bif (y5.Bv != 2) then some true else
     (qdG n a_1 y5.Bx).bind fun r2 =>
     some (!r2)
    else
     (qdG n a_1 y5.Bx).bind fun r3 =>
     some (!r3)).bind fun b7 =>
   bif b7 then some (.ret false) else
   bif (y5.Bv==1) then
    (idx x3 y5.Bx).bind fun y6 =>
    (idx x3 y5.Bx).bind fun _ =>
    qcq a_1 n (setS x3 y5.Bx (W64 (y6+1))) (W64 (i2+1))
   else
    qcq a_1 n x3 (W64 (i2+1))
  else
   some (.nxt (x3,i2))
def qdk (a_0:qn) (a_1:qd):Nat→(List Int)→Int→Option (Flow Bool ((List Int) × Int))
 | 0,_,_=>none
 | n+1,x2,i1 =>
  bif decide (i1<(a_1.Aa.length:Int)) then
   (idx a_1.Aa i1).bind fun y1 =>
   (qd8 n a_1 a_0 y1).bind fun r1 =>
   bif (!r1) then some (.ret false) else
   (idx y1.Ak (W64 ((y1.Ak.length:Int)-1))).bind fun y2 =>
   (idx x2 y2).bind fun y3 =>
   (idx x2 y2).bind fun _ =>
   qdk a_0 a_1 n (setS x2 y2 (W64 (y3+1))) (W64 (i1+1))
  else
   some (.nxt (x2,i1))
def qjp (n:Nat) (a_0:qn) (a_1:qd):Option Bool :=
 (
  (qiK n a_0).bind fun r5 =>
  bif (!r5) then some true else
  (qe9 n a_1).bind fun r6 =>
  some (!r6)).bind fun b1 =>
 bif b1 then some false else
 (mkS (a_1.Ak.length:Int) (0:Int)).bind fun x1 =>
 (qdk a_0 a_1 n x1 0).bind fun o=>match o with
 | .ret r=>some r
 | .nxt (x2,_) =>
  (qcq a_1 n x2 0).bind fun o=>match o with
  | .ret r=>some r
  | .nxt (x3,_) =>
   (qbJ n x3).bind fun r4 =>
   some (!r4)
theorem qp0 {a_0:qn} {a_1:qd} (ha1:Ro w a_0 cs1) (ha2:Ro w a_1 cs2) {r:Bool} (hF:qjp n a_0 a_1=some r):RetV Tryz.prog 211 [GoT.v qn cs1,GoT.v qd cs2] w r:=by
 obtain ⟨p1,k1,rfl,s1⟩:=qbz ha1
 obtain ⟨p2,k2,p3,k3,p4,k4,rfl,s2,s3,s4⟩:=qay ha2
 refine zV 84 Tryz.func211 rfl fun h=>zSR (qv h rfl rfl fun w1 bb1 h=>qv h rfl rfl fun w2 bb2 h=>X0 4 rfl ?_)
 obtain ⟨KF2,hKF2,o4,hF,hK4⟩:=bindE hF
 refine qbe (fun e w'=>∃ (b1:Bool),KF2 b1=some r∧e=[(2,.pointer (some ⟨bb1,0,none⟩)),(3,.pointer (some ⟨bb2,0,none⟩)),(17,.bool b1)]∧SH w w' [Ch.box bb2 (qaS a_1 p2 p3 p4 k2 k3 k4) 48,Ch.box bb1 [.slice p1 a_0.As.length k1] 44]) ?_ ?_
 ·refine X1 2 1 h rfl (zcB h hF (qo7 (h.old ha1)) rfl fun r5 w17 h hF=>zp2 rfl (qj (t:=13) hF rfl ?_ ?_))<;>intro hF
  ·refine X0 5 rfl ?_
   obtain rfl:=qb hF
   exact rG ⟨_,hK4,rfl,h⟩ rfl
  refine X1 3 0 h rfl (zcB h hF (qlV (h.old ha2)) rfl fun r6 w18 h hF=>X0 4 rfl ?_)
  obtain rfl:=qb hF
  exact rG ⟨_,hK4,rfl,h⟩ rfl
 rintro e4 w19 ⟨b1,hF,rfl,h⟩
 subst hKF2
 refine qh rfl hF ?_ ?_<;>intro hF
 ·exact X0 4 rfl (rb h hF rfl)
 refine X1 6 0 h rfl ?_
 obtain ⟨x1,hx1,hF⟩:=qc hF
 obtain ⟨g1,g2,hx1⟩:=qU hx1
 refine qam qa Int h rfl rfl rfl rfl rfl rfl rfl rfl rfl g1 g2 hx1 rfl fun w3 S1 p5 h=>X1 10 1 h rfl ?_
 obtain ⟨o1,hF,hK1⟩:=qc hF
 refine qm (rL (fun m e w'=>∃ (x2:(List Int)) (i1:Int),qdk a_0 a_1 m x2 i1=some o1∧e=[(2,.pointer (some ⟨bb1,0,none⟩)),(3,.pointer (some ⟨bb2,0,none⟩)),(5,.slice p5 x1.length x1.length),(23,.slice p2 a_1.Aa.length k2),(24,.int .i64 (a_1.Aa.length:Int)),(25,.int .i64 i1)]∧SH w w' [Ch.own S1 (x2:List Int) [.slice p5 x1.length x1.length],Ch.box bb2 (qaS a_1 p2 p3 p4 k2 k3 k4) 48,Ch.box bb1 [.slice p1 a_0.As.length k1] 44]) n ⟨_,_,hF,rfl,h⟩ rfl ?_)
 rintro m1 e1 w4 ⟨x2,i1,hF,rfl,h⟩
 rcases m1 with _|m1
 ·cases hF
 refine X0 5 rfl (qh rfl hF ?_ ?_)<;>intro hF
 ·refine zKSBSR ?_
  obtain ⟨y1,hy1,hF,he1,b2,_,q1,cs3,hp1,hq1,hr1,hc3⟩:=s2.ix hF
  obtain ⟨p6,k5,rfl,s5⟩:=qP hr1
  refine zxe hp1 hq1 he1 rfl (zc 0 (hc3.below h.below) rfl (qp qa h rfl rfl rfl fun w5 bb3 h=>zs 0 h rfl fun w6 h=>X3 7 2 3 0 h rfl (zcB h hF (qli (h.old ha2) (h.old ha1) (qgy y1 (h.oldS s5))) rfl fun r1 w7 h hF=>X0 2 rfl (qh rfl hF ?_ ?_))))<;>intro hF
  ·refine X0 4 rfl ?_
   obtain rfl:=qb hF;replace hF:=hK1
   exact rb h hF rfl
  refine X2 9 0 0 h rfl ?_
  obtain ⟨y2,hy2,hF,he2,b3,_,q2,cs4,hp2,hq2,rfl,hc5⟩:=s5.ix hF
  refine zxe hp2 hq2 he2 rfl (zc 0 (hc5.below h.below) rfl ?_)
  obtain ⟨y3,hy3,hF,he3,b4,_,q3,cs5,hp3,hq3,rfl,hc6⟩:=(h.sl 1 rfl).1.ix hF
  refine zx hp3 hq3 ⟨he3.1,qC he3.2.1 (h.sl 1 rfl).2⟩ rfl (zc 0 hc6 rfl (zp1 rfl ?_))
  obtain ⟨y4,hy4,hF,he4,b5,_,q4,cs6,hp4,hq4,rfl,hc7⟩:=(h.sl 1 rfl).1.ix hF
  refine zx hp4 hq4 ⟨he4.1,qC he4.2.1 (h.sl 1 rfl).2⟩ rfl (qaA qa 1 0 (W64 (y3+1)) h rfl hy4 hp4 hq4 rfl hc7 rfl rfl rfl rfl rfl rfl rfl fun w8 h=>X0 6 rfl ?_)
  replace h:=h.pick [1,2,3] rfl
  exact rK ⟨_,_,hF,rfl,h⟩ rfl
 refine qq rfl ?_
 obtain rfl:=qb hF;replace hF:=hK1
 refine X1 8 1 h rfl ?_
 obtain ⟨o2,hF,hK2⟩:=qc hF
 refine qm ?_
 replace h:=h.pick [0,1] rfl
 refine rL (fun m e w'=>∃ (x3:(List Int)) (i2:Int),qcq a_1 m x3 i2=some o2∧e=[(3,.pointer (some ⟨bb2,0,none⟩)),(5,.slice p5 x1.length x1.length),(49,.slice p4 a_1.Aj.length k4),(50,.int .i64 (a_1.Aj.length:Int)),(51,.int .i64 i2)]∧SH w w' [Ch.own S1 (x3:List Int) [.slice p5 x1.length x1.length],Ch.box bb2 (qaS a_1 p2 p3 p4 k2 k3 k4) 48]) n ⟨_,_,hF,rfl,h⟩ rfl ?_
 rintro m2 e2 w9 ⟨x3,i2,hF,rfl,h⟩
 rcases m2 with _|m2
 ·cases hF
 refine X0 5 rfl (qh rfl hF ?_ ?_)<;>intro hF
 ·refine zKSBSR ?_
  obtain ⟨y5,hy5,hF,he5,b6,_,q5,cs7,hp5,hq5,hr6,hc9⟩:=s4.ix hF
  obtain rfl:=qaV hr6
  refine zxe hp5 hq5 he5 rfl (zc 0 (hc9.below h.below) rfl (qp qa h rfl rfl rfl fun w10 bb4 h=>zs 0 h rfl fun w11 h=>zNSS ?_))
  obtain ⟨KF1,hKF1,o3,hF,hK3⟩:=bindE hF
  refine qbe (fun e w'=>∃ (b7:Bool),KF1 b7=some o2∧e=[(3,.pointer (some ⟨bb2,0,none⟩)),(5,.slice p5 x1.length x1.length),(9,.pointer (some ⟨bb4,0,none⟩)),(49,.slice p4 a_1.Aj.length k4),(50,.int .i64 (a_1.Aj.length:Int)),(51,.int .i64 i2),(69,.bool b7)]∧SH w w' [Ch.box bb4 (qqY y5) 245,Ch.own S1 (x3:List Int) [.slice p5 x1.length x1.length],Ch.box bb2 (qaS a_1 p2 p3 p4 k2 k3 k4) 48]) ?_ ?_
  ·refine X1 5 0 h rfl (qj (t:=58) hF rfl ?_ ?_)<;>intro hF
   ·refine X1 8 0 h rfl (qj (t:=63) hF rfl ?_ ?_)<;>intro hF
    ·refine X0 7 rfl ?_
     obtain rfl:=qb hF
     exact rG ⟨_,hK3,rfl,h⟩ rfl
    refine X2 7 2 0 h rfl (zcB h hF (qg4 (h.old ha2)) rfl fun r2 w13 h hF=>X0 4 rfl ?_)
    obtain rfl:=qb hF
    exact rG ⟨_,hK3,rfl,h⟩ rfl
   refine X2 12 2 0 h rfl (zcB h hF (qg4 (h.old ha2)) rfl fun r3 w14 h hF=>X0 4 rfl ?_)
   obtain rfl:=qb hF
   exact rG ⟨_,hK3,rfl,h⟩ rfl
  rintro e3 w15 ⟨b7,hF,rfl,h⟩
  subst hKF1
  refine qh rfl hF ?_ ?_<;>intro hF
  ·refine X0 4 rfl ?_
   obtain rfl:=qb hF;replace hF:=hK2
   exact rb h hF rfl
  refine X1 7 0 h rfl (qh rfl hF ?_ ?_)<;>intro hF
  ·refine X1 4 0 h rfl ?_
   obtain ⟨y6,hy6,hF,he6,b8,_,q6,cs8,hp6,hq6,rfl,hc12⟩:=(h.sl 1 rfl).1.ix hF
   refine zx hp6 hq6 ⟨he6.1,qC he6.2.1 (h.sl 1 rfl).2⟩ rfl (zc 0 hc12 rfl (zp1 rfl ?_))
   obtain ⟨y7,hy7,hF,he7,b9,_,q7,cs9,hp7,hq7,rfl,hc13⟩:=(h.sl 1 rfl).1.ix hF
   refine zx hp7 hq7 ⟨he7.1,qC he7.2.1 (h.sl 1 rfl).2⟩ rfl (qaA qa 1 0 (W64 (y6+1)) h rfl hy7 hp7 hq7 rfl hc13 rfl rfl rfl rfl rfl rfl rfl fun w12 h=>X0 6 rfl ?_)
   replace h:=h.pick [1,2] rfl
   exact rK ⟨_,_,hF,rfl,h⟩ rfl
  refine X0 6 rfl ?_
  replace h:=h.pick [1,2] rfl
  exact rK ⟨_,_,hF,rfl,h⟩ rfl
 refine qq rfl ?_
 obtain rfl:=qb hF;replace hF:=hK2
 exact X0 3 rfl (zcB h hF (qf6 (h.own 0 rfl)) rfl fun r4 w16 h hF=>X0 3 rfl (rb h hF rfl))
def qbH (i1:Int) (y1:qi):Nat→(List Tplace)→Int→Option ((List Tplace) × Int)
 | 0,_,_=>none
 | n+1,x2,i2 =>
  bif decide (i2<(y1.Ak.length:Int)) then
   (idx y1.Ak i2).bind fun y2 =>
   (appS x2 ([(⟨i1,i2,y2,(i2==(W64 ((y1.Ak.length:Int)-1)))⟩:Tplace)]:List Tplace)).bind fun x3 =>
   qbH i1 y1 n x3 (W64 (i2+1))
  else
   some (x2,i2)
def qbF (d:qd):Nat→(List Tplace)→Int→Option ((List Tplace) × Int)
 | 0,_,_=>none
 | n+1,x4,i3 =>
  bif decide (i3<(d.Aj.length:Int)) then
   (idx d.Aj i3).bind fun y3 =>
   (appS x4 ([(⟨(-1),i3,y3.Bx,(y3.Bv==1)⟩:Tplace)]:List Tplace)).bind fun x5 =>
   qbF d n x5 (W64 (i3+1))
  else
   some (x4,i3)
def qbD (d:qd):Nat→(List Tplace)→Int→Option ((List Tplace) × Int)
 | 0,_,_=>none
 | n+1,x1,i1 =>
  bif decide (i1<(d.Aa.length:Int)) then
   (idx d.Aa i1).bind fun y1 =>
   (qbH i1 y1 n x1 0).bind fun o=>match o with
   | (x2,_) =>
    qbD d n x2 (W64 (i1+1))
  else
   some (x1,i1)
def qcp (n:Nat) (d:qd):Option (List Tplace) :=
 (qbD d n ([]:List Tplace) 0).bind fun o=>match o with
 | (x1,_) =>
  (qbF d n x1 0).bind fun o=>match o with
  | (x4,_) =>
   some x4
theorem qeT {d:qd} (ha1:Ro w d cs1) {r:(List Tplace)} (hF:qcp n d=some r):RetV Tryz.prog 212 [GoT.v qd cs1] w r:=by
 obtain ⟨p1,k1,p2,k2,p3,k3,rfl,s1,s2,s3⟩:=qay ha1
 refine zV 61 Tryz.func212 rfl fun h=>zSR (qv h rfl rfl fun w1 bb1 h=>X1 14 0 h rfl ?_)
 replace h:=h.nil (α:=Tplace)
 obtain ⟨o1,hF,hK1⟩:=qc hF
 refine qm (rL (fun m e w'=>∃ (S1:Nat→Prop) (p4:Option Addr) (ln1:Nat) (k4:Nat) (x1:(List Tplace)) (i1:Int),qbD d m x1 i1=some o1∧e=[(1,.pointer (some ⟨bb1,0,none⟩)),(3,.slice p4 ln1 k4),(11,.slice p1 d.Aa.length k1),(12,.int .i64 (d.Aa.length:Int)),(13,.int .i64 i1)]∧SH w w' [Ch.own S1 (x1:List Tplace) [.slice p4 ln1 k4],Ch.box bb1 (qaS d p1 p2 p3 k1 k2 k3) 48]) n ⟨_,_,_,_,_,_,hF,rfl,h⟩ rfl ?_)
 rintro m1 e1 w2 ⟨S1,p4,ln1,k4,x1,i1,hF,rfl,h⟩
 obtain rfl:=(h.sl 0 rfl).2
 rcases m1 with _|m1
 ·cases hF
 refine X0 5 rfl (qh rfl hF ?_ ?_)<;>intro hF
 ·refine X0 6 rfl ?_
  obtain ⟨y1,hy1,hF,he1,b1,_,q1,cs2,hp1,hq1,hr1,hc2⟩:=s1.ix hF
  obtain ⟨p5,k5,rfl,s4⟩:=qP hr1
  refine zxe hp1 hq1 he1 rfl (zc 0 (hc2.below h.below) rfl (qp qa h rfl rfl rfl fun w3 bb2 h=>zp1 rfl (zs 0 h rfl fun w4 h=>X1 8 0 h rfl ?_)))
  obtain ⟨o2,hF,hK2⟩:=qc hF
  refine qm (rL (fun m e w'=>∃ (S2:Nat→Prop) (p6:Option Addr) (ln2:Nat) (k6:Nat) (x2:(List Tplace)) (i2:Int),qbH i1 y1 m x2 i2=some o2∧e=[(1,.pointer (some ⟨bb1,0,none⟩)),(3,.slice p6 ln2 k6),(4,.int .i64 i1),(5,.pointer (some ⟨bb2,0,none⟩)),(11,.slice p1 d.Aa.length k1),(12,.int .i64 (d.Aa.length:Int)),(13,.int .i64 i1),(19,.slice p5 y1.Ak.length k5),(20,.int .i64 (y1.Ak.length:Int)),(21,.int .i64 i2)]∧SH w w' [Ch.box bb2 (qjX y1 p5 k5) 170,Ch.own S2 (x2:List Tplace) [.slice p6 ln2 k6],Ch.box bb1 (qaS d p1 p2 p3 k1 k2 k3) 48]) m1 ⟨_,_,_,_,_,_,hF,rfl,h⟩ rfl ?_)
  rintro m2 e2 w5 ⟨S2,p6,ln2,k6,x2,i2,hF,rfl,h⟩
  obtain rfl:=(h.sl 1 rfl).2
  rcases m2 with _|m2
  ·cases hF
  refine X0 5 rfl (qh rfl hF ?_ ?_)<;>intro hF
  ·refine X0 6 rfl ?_
   obtain ⟨y2,hy2,hF,he2,b2,_,q2,cs3,hp2,hq2,rfl,hc4⟩:=s4.ix hF
   refine zxe hp2 hq2 he2 rfl (zc 0 (hc4.below h.below) rfl (X1 14 0 h rfl (r_v (qaa qa [0,1,2,3] [.tmp 27,.tmp 28,.tmp 29,.tmp 35] rfl rfl rfl rfl rfl rfl rfl rfl) rfl (qL qa [.tmp 36] _ ([(⟨i1,i2,y2,(i2==(W64 ((y1.Ak.length:Int)-1)))⟩:Tplace)]:List Tplace) h rfl rfl rfl rfl rfl rfl rfl rfl rfl ⟨(qmq (⟨i1,i2,y2,(i2==(W64 ((y1.Ak.length:Int)-1)))⟩:Tplace)),trivial⟩ rfl fun w6 p7 S3 h=>?_))))
   obtain ⟨x3,hx1,hF⟩:=qc hF
   obtain ⟨g1,hx1⟩:=qaw hx1
   refine qcC qa 2 h rfl (h.sl 0 rfl).1 (h.sl 0 rfl).2 rfl rfl rfl rfl rfl rfl rfl rfl rfl g1 hx1 rfl fun w7 p8 k7 S4 h=>X0 7 rfl ?_
   replace h:=h.pick [1,2,3] rfl
   exact rK ⟨_,_,_,_,_,_,hF,rfl,h⟩ rfl
  refine qq rfl ?_
  obtain rfl:=qb hF;replace hF:=hK2
  refine X0 5 rfl ?_
  replace h:=h.pick [1,2] rfl
  exact rK ⟨_,_,_,_,_,_,hF,rfl,h⟩ rfl
 refine qq rfl ?_
 obtain rfl:=qb hF;replace hF:=hK1
 refine X1 8 1 h rfl ?_
 obtain ⟨o3,hF,hK3⟩:=qc hF
 refine qm ?_
 replace h:=h.pick [0] rfl
 refine rL (fun m e w'=>∃ (S5:Nat→Prop) (p9:Option Addr) (ln3:Nat) (k8:Nat) (x4:(List Tplace)) (i3:Int),qbF d m x4 i3=some o3∧e=[(3,.slice p9 ln3 k8),(42,.slice p3 d.Aj.length k3),(43,.int .i64 (d.Aj.length:Int)),(44,.int .i64 i3)]∧SH w w' [Ch.own S5 (x4:List Tplace) [.slice p9 ln3 k8]]) n ⟨_,_,_,_,_,_,hF,rfl,h⟩ rfl ?_
 rintro m3 e3 w8 ⟨S5,p9,ln3,k8,x4,i3,hF,rfl,h⟩
 obtain rfl:=(h.sl 0 rfl).2
 rcases m3 with _|m3
 ·cases hF
 refine X0 5 rfl (qh rfl hF ?_ ?_)<;>intro hF
 ·refine X0 6 rfl ?_
  obtain ⟨y3,hy3,hF,he3,b3,_,q3,cs4,hp3,hq3,hr3,hc6⟩:=s3.ix hF
  obtain rfl:=qaV hr3
  refine zxe hp3 hq3 he3 rfl (zc 0 (hc6.below h.below) rfl (qp qa h rfl rfl rfl fun w9 bb3 h=>zp1 rfl (zs 0 h rfl fun w10 h=>X2 9 0 0 h rfl (r_v (qaa qa [0,1,2,3] [.const (.int .i64 (-1)),.tmp 50,.tmp 52,.tmp 55] rfl rfl rfl rfl rfl rfl rfl rfl) rfl (qL qa [.tmp 56] _ ([(⟨(-1),i3,y3.Bx,(y3.Bv==1)⟩:Tplace)]:List Tplace) h rfl rfl rfl rfl rfl rfl rfl rfl rfl ⟨(qmq (⟨(-1),i3,y3.Bx,(y3.Bv==1)⟩:Tplace)),trivial⟩ rfl fun w11 p10 S6 h=>?_)))))
  obtain ⟨x5,hx2,hF⟩:=qc hF
  obtain ⟨g2,hx2⟩:=qaw hx2
  refine qcC qa 2 h rfl (h.sl 0 rfl).1 (h.sl 0 rfl).2 rfl rfl rfl rfl rfl rfl rfl rfl rfl g2 hx2 rfl fun w12 p11 k9 S7 h=>X0 7 rfl ?_
  replace h:=h.pick [2] rfl
  exact rK ⟨_,_,_,_,_,_,hF,rfl,h⟩ rfl
 refine qq rfl ?_
 obtain rfl:=qb hF;replace hF:=hK3
 refine X0 5 rfl ?_
 obtain rfl:=qb hF
 exact rO 0 h rfl ⟨rfl,trivial⟩
def qbf (a_w:qD):Nat→Int→Option (Flow Bool Int)
 | 0,_=>none
 | n+1,i1 =>
  bif decide (i1<(a_w.Am.length:Int)) then
   (idx a_w.Am i1).bind fun y1 =>
   bif (i1==0) then
    bif (y1 != (-1)) then some (.ret false) else
    (idx a_w.Bw 0).bind fun y2 =>
    bif (y2 != 0) then some (.ret false) else
    bif decide (i1 > 0) then
     (qaR n y1 0 (W64 (i1-1))).bind fun r1 =>
     bif (!r1) then some (.ret false) else
     qbf a_w n (W64 (i1+1))
    else
     qbf a_w n (W64 (i1+1))
   else
    bif decide (i1 > 0) then
     (qaR n y1 0 (W64 (i1-1))).bind fun r2 =>
     bif (!r2) then some (.ret false) else
     qbf a_w n (W64 (i1+1))
    else
     qbf a_w n (W64 (i1+1))
  else
   some (.nxt i1)
def qho (n:Nat) (a_w:qD):Option Bool :=
 (qbf a_w n 0).bind fun o=>match o with
 | .ret r=>some r
 | .nxt _ =>
  some true
theorem qof {a_w:qD} (ha1:Ro w a_w cs1) {r:Bool} (hF:qho n a_w=some r):RetV Tryz.prog 245 [GoT.v qD cs1] w r:=by
 obtain ⟨p1,k1,p2,k2,p3,k3,p4,k4,rfl,s1,s2,s3,s4⟩:=qaN ha1
 refine zV 38 Tryz.func245 rfl fun h=>zSR (qv h rfl rfl fun w1 bb1 h=>X1 10 0 h rfl ?_)
 obtain ⟨o1,hF,hK1⟩:=qc hF
 refine qm (rL (fun m e w'=>∃ (i1:Int),qbf a_w m i1=some o1∧e=[(1,.pointer (some ⟨bb1,0,none⟩)),(6,.slice p1 a_w.Am.length k1),(7,.int .i64 (a_w.Am.length:Int)),(8,.int .i64 i1)]∧SH w w' [Ch.box bb1 (qgI a_w p1 p2 p3 p4 k1 k2 k3 k4) 186]) n ⟨_,hF,rfl,h⟩ rfl ?_)
 rintro m1 e1 w2 ⟨i1,hF,rfl,h⟩
 rcases m1 with _|m1
 ·cases hF
 refine X0 5 rfl (qh rfl hF ?_ ?_)<;>intro hF
 ·refine X0 6 rfl ?_
  obtain ⟨y1,hy1,hF,he1,b1,_,q1,cs2,hp1,hq1,rfl,hc2⟩:=s1.ix hF
  refine zxe hp1 hq1 he1 rfl (zc 0 (hc2.below h.below) rfl (X0 8 rfl (qj (t:=15) hF rfl ?_ ?_)))<;>intro hF
  ·refine X0 6 rfl (qj (t:=18) hF rfl ?_ ?_)<;>intro hF
   ·refine X0 20 rfl (qb0 rfl rfl (X0 4 rfl ?_))
    obtain rfl:=qb hF;replace hF:=hK1
    exact rb h hF rfl
   refine X1 5 0 h rfl ?_
   obtain ⟨y2,hy2,hF,he2,b2,_,q2,cs3,hp2,hq2,rfl,hc3⟩:=s2.ix hF
   refine zxe hp2 hq2 he2 rfl (X0 1 rfl (zc 0 (hc3.below h.below) rfl (X0 6 rfl (qj (t:=26) hF rfl ?_ ?_))))<;>intro hF
   ·refine X0 11 rfl (qb0 rfl rfl (X0 4 rfl ?_))
    obtain rfl:=qb hF;replace hF:=hK1
    exact rb h hF rfl
   refine X0 6 rfl (qj (t:=29) hF rfl ?_ ?_)<;>intro hF
   ·refine X0 7 rfl (zcB h hF qaz rfl fun r1 w3 h hF=>X0 6 rfl (qh rfl hF ?_ ?_))<;>intro hF
    ·refine X0 4 rfl ?_
     obtain rfl:=qb hF;replace hF:=hK1
     exact rb h hF rfl
    exact X0 6 rfl (rK ⟨_,hF,rfl,h⟩ rfl)
   exact X0 9 rfl (qbW rfl rfl (X0 6 rfl (rK ⟨_,hF,rfl,h⟩ rfl)))
  refine X0 17 rfl (qj (t:=29) hF rfl ?_ ?_)<;>intro hF
  ·refine X0 7 rfl (zcB h hF qaz rfl fun r2 w4 h hF=>X0 6 rfl (qh rfl hF ?_ ?_))<;>intro hF
   ·refine X0 4 rfl ?_
    obtain rfl:=qb hF;replace hF:=hK1
    exact rb h hF rfl
   exact X0 6 rfl (rK ⟨_,hF,rfl,h⟩ rfl)
  exact X0 9 rfl (qbW rfl rfl (X0 6 rfl (rK ⟨_,hF,rfl,h⟩ rfl)))
 refine qq rfl ?_
 obtain rfl:=qb hF;replace hF:=hK1
 exact X0 4 rfl (rb h hF rfl)
def qlL (n:Nat) (a_w:qD) (sinks:Int):Option Bool :=
 (qbs n a_w.Am).bind fun r1 =>
 (qaR n r1 1 8).bind fun r2 =>
 bif r2 then
  (qbs n a_w.Bw).bind fun r3 =>
  bif (r3==r1) then
   (qbs n a_w.Bs).bind fun r4 =>
   bif (r4==r1) then
    (qho n a_w).bind fun r5 =>
    bif r5 then
     (qbM n a_w.Bw 0 1000).bind fun r6 =>
     bif r6 then
      (qbM n a_w.Bs 0 500).bind fun r7 =>
      bif r7 then
       (qbs n a_w.Bl).bind fun r8 =>
       bif (r8==sinks) then
        (qbM n a_w.Bl 0 (W64 (r1-1))).bind fun r9 =>
        some r9
       else
        some false
      else
       some false
     else
      some false
    else
     some false
   else
    some false
  else
   some false
 else
  some false
theorem qry {a_w:qD} {sinks:Int} (ha1:Ro w a_w cs1) {r:Bool} (hF:qlL n a_w sinks=some r):RetV Tryz.prog 213 [GoT.v qD cs1,.int .i64 sinks] w r:=by
 obtain ⟨p1,k1,p2,k2,p3,k3,p4,k4,rfl,s1,s2,s3,s4⟩:=qaN ha1
 refine zV 53 Tryz.func213 rfl fun h=>zSR (qv h rfl rfl fun w1 bb1 h=>X1 6 0 h rfl (zcI h hF (qcv ⟨_,_,rfl,(h.oldS s1)⟩) rfl fun r1 w2 h hF=>X0 5 rfl (zcB h hF qaz rfl fun r2 w3 h hF=>zp1 rfl (qj (t:=11) hF rfl ?_ ?_))))<;>intro hF
 ·refine X1 5 0 h rfl (zcI h hF (qcv ⟨_,_,rfl,(h.oldS s2)⟩) rfl fun r3 w4 h hF=>X0 6 rfl (qj (t:=18) hF rfl ?_ ?_))<;>intro hF
  ·refine X1 5 0 h rfl (zcI h hF (qcv ⟨_,_,rfl,(h.oldS s3)⟩) rfl fun r4 w5 h hF=>X0 6 rfl (qj (t:=25) hF rfl ?_ ?_))<;>intro hF
   ·refine X1 3 0 h rfl (zcB h hF (qof (h.old ha1)) rfl fun r5 w6 h hF=>zp2 rfl (qj (t:=29) hF rfl ?_ ?_))<;>intro hF
    ·refine X1 5 0 h rfl (zcB h hF (qcd ⟨_,_,rfl,(h.oldS s2)⟩) rfl fun r6 w7 h hF=>zp2 rfl (qj (t:=34) hF rfl ?_ ?_))<;>intro hF
     ·refine X1 5 0 h rfl (zcB h hF (qcd ⟨_,_,rfl,(h.oldS s3)⟩) rfl fun r7 w8 h hF=>zp2 rfl (qj (t:=39) hF rfl ?_ ?_))<;>intro hF
      ·refine X1 5 0 h rfl (zcI h hF (qcv ⟨_,_,rfl,(h.oldS s4)⟩) rfl fun r8 w9 h hF=>X0 6 rfl (qj (t:=46) hF rfl ?_ ?_))<;>intro hF
       ·exact X1 9 0 h rfl (zcB h hF (qcd ⟨_,_,rfl,(h.oldS s4)⟩) rfl fun r9 w10 h hF=>X0 3 rfl (rb h hF rfl))
       exact X0 8 rfl (rb h hF rfl)
      exact X0 15 rfl (rb h hF rfl)
     exact X0 20 rfl (rb h hF rfl)
    exact X0 25 rfl (rb h hF rfl)
   exact X0 29 rfl (rb h hF rfl)
  exact X0 36 rfl (rb h hF rfl)
 exact X0 43 rfl (rb h hF rfl)
def qeY (b:qg) (x2:(List Int)):Nat→Int→Option (Flow Bool Int)
 | 0,_=>none
 | n+1,i2 =>
  bif decide (i2<(b.Ac.length:Int)) then
   (idx b.Ac i2).bind fun y4 =>
   (idx x2 i2).bind fun y5 =>
   (qlL n y4 y5).bind fun r2 =>
   bif (!r2) then some (.ret false) else
   qeY b x2 n (W64 (i2+1))
  else
   some (.nxt i2)
def qc9 (r1:(List Tplace)):Nat→(List Int)→Int→Option ((List Int) × Int)
 | 0,_,_=>none
 | n+1,x2,i1 =>
  bif decide (i1<(r1.length:Int)) then
   (idx r1 i1).bind fun y1 =>
   bif (!y1.drives) then
    (idx x2 y1.net).bind fun y2 =>
    (idx x2 y1.net).bind fun _ =>
    qc9 r1 n (setS x2 y1.net (W64 (y2+1))) (W64 (i1+1))
   else
    qc9 r1 n x2 (W64 (i1+1))
  else
   some (x2,i1)
def qiA (n:Nat) (b:qg):Option Bool :=
 (
  (qjp n (⟨b.Av.As⟩:qn) (⟨b.Ab.Aa,b.Ab.Ak,b.Ab.Aj⟩:qd)).bind fun r3 =>
  bif (!r3) then some true else
  some ((b.Ac.length:Int) != (b.Ab.Ak.length:Int))).bind fun b1 =>
 bif b1 then some false else
 (mkS (b.Ac.length:Int) (0:Int)).bind fun x1 =>
 (qcp n (⟨b.Ab.Aa,b.Ab.Ak,b.Ab.Aj⟩:qd)).bind fun r1 =>
 (qc9 r1 n x1 0).bind fun o=>match o with
 | (x2,_) =>
  (qeY b x2 n 0).bind fun o=>match o with
  | .ret r=>some r
  | .nxt _ =>
   some true
theorem qqw {b:qg} (ha1:Ro w b cs1) {r:Bool} (hF:qiA n b=some r):RetV Tryz.prog 186 [GoT.v qg cs1] w r:=by
 obtain ⟨p1,k1,p2,k2,p3,k3,p4,k4,p5,k5,rfl,s1,s2,s3,s4,s5⟩:=qac ha1
 refine zV 63 Tryz.func186 rfl fun h=>zSR (qv h rfl rfl fun w1 bb1 h=>X0 4 rfl ?_)
 obtain ⟨KF1,hKF1,o3,hF,hK3⟩:=bindE hF
 refine qbe (fun e w'=>∃ (b1:Bool),KF1 b1=some r∧e=[(1,.pointer (some ⟨bb1,0,none⟩)),(23,.bool b1)]∧SH w w' [Ch.box bb1 (qa1 b p1 p2 p3 p4 p5 k1 k2 k3 k4 k5) 51]) ?_ ?_
 ·refine X2 5 0 0 h rfl (zcB h hF (qp0 (qd9 _ (h.oldS s1)) (qar _ (h.oldS s2) (h.oldS s3) (h.oldS s4))) rfl fun r3 w12 h hF=>zp2 rfl (qj (t:=14) hF rfl ?_ ?_))<;>intro hF
  ·refine X0 10 rfl ?_
   obtain rfl:=qb hF
   exact rG ⟨_,hK3,rfl,h⟩ rfl
  refine X2 18 0 0 h rfl ?_
  obtain rfl:=qb hF
  exact rG ⟨_,hK3,rfl,h⟩ rfl
 rintro e3 w13 ⟨b1,hF,rfl,h⟩
 subst hKF1
 refine qh rfl hF ?_ ?_<;>intro hF
 ·exact X0 4 rfl (rb h hF rfl)
 refine X1 6 0 h rfl ?_
 obtain ⟨x1,hx1,hF⟩:=qc hF
 obtain ⟨g1,g2,hx1⟩:=qU hx1
 refine qam qa Int h rfl rfl rfl rfl rfl rfl rfl rfl rfl g1 g2 hx1 rfl fun w2 S1 p6 h=>X1 7 1 h rfl (zcL h hF (qeT (qar _ (h.oldS s2) (h.oldS s3) (h.oldS s4))) rfl fun r1 w3 S2 p7 k6 h hF=>X0 3 rfl ?_)
 obtain ⟨o1,hF,hK1⟩:=qc hF
 refine qm (rL (fun m e w'=>∃ (x2:(List Int)) (i1:Int),qc9 r1 m x2 i1=some o1∧e=[(1,.pointer (some ⟨bb1,0,none⟩)),(3,.slice p6 x1.length x1.length),(30,.slice p7 r1.length k6),(31,.int .i64 (r1.length:Int)),(32,.int .i64 i1)]∧SH w w' [Ch.own S2 (r1:List Tplace) [.slice p7 r1.length k6],Ch.own S1 (x2:List Int) [.slice p6 x1.length x1.length],Ch.box bb1 (qa1 b p1 p2 p3 p4 p5 k1 k2 k3 k4 k5) 51]) n ⟨_,_,hF,rfl,h⟩ rfl ?_)
 rintro m1 e1 w4 ⟨x2,i1,hF,rfl,h⟩
 rcases m1 with _|m1
 ·cases hF
 refine X0 5 rfl (qh rfl hF ?_ ?_)<;>intro hF
 ·refine zKSBSR ?_
  obtain ⟨y1,hy1,hF,he1,b2,_,q1,cs2,hp1,hq1,hr2,hc3⟩:=(h.sl 0 rfl).1.ix hF
  obtain rfl:=qgW hr2
  refine zx hp1 hq1 ⟨he1.1,qC he1.2.1 (h.sl 0 rfl).2⟩ rfl (zc 0 hc3 rfl (qp qa h rfl rfl rfl fun w5 bb2 h=>zs 0 h rfl fun w6 h=>X1 7 0 h rfl (qh rfl hF ?_ ?_)))<;>intro hF
  ·refine X1 4 0 h rfl ?_
   obtain ⟨y2,hy2,hF,he2,b3,_,q2,cs3,hp2,hq2,rfl,hc5⟩:=(h.sl 2 rfl).1.ix hF
   refine zx hp2 hq2 ⟨he2.1,qC he2.2.1 (h.sl 2 rfl).2⟩ rfl (zc 0 hc5 rfl (zp1 rfl ?_))
   obtain ⟨y3,hy3,hF,he3,b4,_,q3,cs4,hp3,hq3,rfl,hc6⟩:=(h.sl 2 rfl).1.ix hF
   refine zx hp3 hq3 ⟨he3.1,qC he3.2.1 (h.sl 2 rfl).2⟩ rfl (qaA qa 2 0 (W64 (y2+1)) h rfl hy3 hp3 hq3 rfl hc6 rfl rfl rfl rfl rfl rfl rfl fun w7 h=>X0 6 rfl ?_)
   replace h:=h.pick [1,2,3] rfl
   exact rK ⟨_,_,hF,rfl,h⟩ rfl
  refine X0 6 rfl ?_
  replace h:=h.pick [1,2,3] rfl
  exact rK ⟨_,_,hF,rfl,h⟩ rfl
 refine qq rfl ?_
 obtain rfl:=qb hF;replace hF:=hK1
 refine X1 8 2 h rfl ?_
 obtain ⟨o2,hF,hK2⟩:=qc hF
 refine qm ?_
 replace h:=h.pick [1] rfl
 refine rL (fun m e w'=>∃ (i2:Int),qeY b x2 m i2=some o2∧e=[(3,.slice p6 x1.length x1.length),(48,.slice p5 b.Ac.length k5),(49,.int .i64 (b.Ac.length:Int)),(50,.int .i64 i2)]∧SH w w' [Ch.own S1 (x2:List Int) [.slice p6 x1.length x1.length]]) n ⟨_,hF,rfl,h⟩ rfl ?_
 rintro m2 e2 w8 ⟨i2,hF,rfl,h⟩
 rcases m2 with _|m2
 ·cases hF
 refine X0 5 rfl (qh rfl hF ?_ ?_)<;>intro hF
 ·refine X0 6 rfl ?_
  obtain ⟨y4,hy4,hF,he4,b5,_,q4,cs5,hp4,hq4,hr5,hc8⟩:=s5.ix hF
  obtain ⟨p8,k7,p9,k8,p10,k9,p11,k10,rfl,s6,s7,s8,s9⟩:=qaN hr5
  refine zxe hp4 hq4 he4 rfl (zc 0 (hc8.below h.below) rfl (qp qa h rfl rfl rfl fun w9 bb3 h=>zp1 rfl (zs 0 h rfl fun w10 h=>zNS (rD (Y1 1 0 h rfl ?_)))))
  refine zd2 rfl ?_
  obtain ⟨y5,hy5,hF,he5,b6,_,q5,cs6,hp5,hq5,rfl,hc9⟩:=(h.sl 1 rfl).1.ix hF
  refine zdx hp5 hq5 ⟨he5.1,qC he5.2.1 (h.sl 1 rfl).2⟩ rfl (zdc 0 hc9 rfl ?_)
  obtain ⟨r2,hr7,hF⟩:=qc hF
  refine qa0 r2 (vsB _) (cB 213 rfl) (fun _ hb=>qry (qkC y4 ((h.ext hb).oldS s6) ((h.ext hb).oldS s7) ((h.ext hb).oldS s8) ((h.ext hb).oldS s9)) hr7) rfl rfl rfl rfl (zd1 rfl (dN h fun w11 h=>qh rfl hF ?_ ?_))<;>intro hF
  ·refine X0 4 rfl ?_
   obtain rfl:=qb hF;replace hF:=hK2
   exact rb h hF rfl
  refine X0 6 rfl ?_
  replace h:=h.pick [1] rfl
  exact rK ⟨_,hF,rfl,h⟩ rfl
 refine qq rfl ?_
 obtain rfl:=qb hF;replace hF:=hK2
 exact X0 4 rfl (rb h hF rfl)
end Go.Fw


namespace Go.Fw
open Go
def qaM (a:(List Int)):Nat:=a.length
theorem qdx {a:(List Int)} (h:(rngL rngI) a) (w:qaM a≤1048576):(okL okI) a :=
 ⟨by simp only [qaM] at w;omega,fun x hx=>h.2 x hx⟩
def qio (x:qr):Prop:=(rngL rngI) x.Bm∧(rngL rngI) x.Bj∧(rngL rngI) x.Bh
def qd7 (x:qr):Nat:=qaM x.Bm+qaM x.Bj+qaM x.Bh
structure qi3 (x:qr):Prop where
 Bm:(okL okI) x.Bm
 Bj:(okL okI) x.Bj
 Bh:(okL okI) x.Bh
theorem qu3 {x:qr} (h:qio x) (w:qd7 x≤1048576):qi3 x:=⟨qdx (h.1) (by simp only [qd7] at w;omega),qdx (h.2.1) (by simp only [qd7] at w;omega),qdx (h.2.2) (by simp only [qd7] at w;omega)⟩
def qdc (a:(List qr)):Nat:=a.length+(a.map fun x=>qd7 x).sum
theorem qqc {a:(List qr)} (h:(rngL qio) a) (w:qdc a≤1048576):(okL qi3) a :=
 ⟨by simp only [qdc] at w;omega,fun x hx=>qu3 (h.2 x hx) (by have:=qcB (wt:=fun x:qr=>qd7 x) hx;simp only [qdc] at w;omega)⟩
def qmS (x:qG):Prop:=rngI x.Bf∧rngI x.Bk∧rngI x.To∧rngI x.Bp∧(rngL qio) x.Bn∧(rngL qio) x.Bc
def qi6 (x:qG):Nat:=qdc x.Bn+qdc x.Bc
structure qor (x:qG):Prop where
 Bf:okI x.Bf
 Bk:okI x.Bk
 To:okI x.To
 Bp:okI x.Bp
 Bn:(okL qi3) x.Bn
 Bc:(okL qi3) x.Bc
theorem qxt {x:qG} (h:qmS x) (w:qi6 x≤1048576):qor x:=⟨h.1,h.2.1,h.2.2.1,h.2.2.2.1,qqc (h.2.2.2.2.1) (by simp only [qi6] at w;omega),qqc (h.2.2.2.2.2) (by simp only [qi6] at w;omega)⟩
theorem qdN {a:(List Int)} (h:qaM a≤1048576):Ev (fun n=>qaO n a a) true:=by
 have hl:a.length≤1048576:=by simp only [qaM] at h;omega
 unfold qaO
 exact Ev.ff (by simp) (Ev.bind (b:=.nxt (a.length:Int)) (qjx (eqf:=fun _ x y=>some (!(x != y))) (fun x _=>Ev.now (by simp))
  (fun n=>by simp only [qfD,ql (je _),cond_false])
  (fun n j x hx=>by
   have hj:=(List.getElem?_eq_some_iff.1 hx).1
   simp only [qfD,qk hj,cond_true,qan hx,jd,Bool.not_not,wS j])) .done)
theorem qxc {a:qr} (h:qd7 a≤1048576):Ev (fun n=>qiv n a a) true:=by
 unfold qiv
 simp only [qd7] at h
 exact Ev.bind (qdN (a:=a.Bm) (by omega)) (Ev.ff rfl (Ev.bind (qdN (a:=a.Bj) (by omega)) (Ev.ff rfl (Ev.bind (qdN (a:=a.Bh) (by omega)) (Ev.ff rfl (.done))))))
theorem qso {a:(List qr)} (h:qdc a≤1048576):Ev (fun n=>qhQ n a a) true:=by
 have hl:a.length≤1048576:=by simp only [qdc] at h;omega
 unfold qhQ
 exact Ev.ff (by simp) (Ev.bind (b:=.nxt (a.length:Int)) (qjx (eqf:=qiv) (fun x hx=>qxc (by have:=qcB (wt:=fun x:qr=>qd7 x) hx;simp only [qdc] at h;omega))
  (fun n=>by simp only [qfV,ql (je _),cond_false])
  (fun n j x hx=>by
   have hj:=(List.getElem?_eq_some_iff.1 hx).1
   simp only [qfV,qk hj,cond_true,qan hx,jd,wS j])) .done)
theorem qzL {a:qG} (h:qi6 a≤1048576):Ev (fun n=>qk1 n a a) true:=by
 unfold qk1
 simp only [qi6] at h
 exact Ev.ff qaP (Ev.ff qaP (Ev.ff qaP (Ev.ff qaP (Ev.bind (qso (a:=a.Bn) (by omega)) (Ev.ff rfl (Ev.bind (qso (a:=a.Bc) (by omega)) (Ev.ff rfl (.done))))))))
def qhF (a:(List qG)):Nat:=a.length+(a.map fun x=>qi6 x).sum
theorem qwY {a:(List qG)} (h:(rngL qmS) a) (w:qhF a≤1048576):(okL qor) a :=
 ⟨by simp only [qhF] at w;omega,fun x hx=>qxt (h.2 x hx) (by have:=qcB (wt:=fun x:qG=>qi6 x) hx;simp only [qhF] at w;omega)⟩
theorem qys {a:(List qG)} (h:qhF a≤1048576):Ev (fun n=>qlD n a a) true:=by
 have hl:a.length≤1048576:=by simp only [qhF] at h;omega
 unfold qlD
 exact Ev.ff (by simp) (Ev.bind (b:=.nxt (a.length:Int)) (qjx (eqf:=qk1) (fun x hx=>qzL (by have:=qcB (wt:=fun x:qG=>qi6 x) hx;simp only [qhF] at h;omega))
  (fun n=>by simp only [qgZ,ql (je _),cond_false])
  (fun n j x hx=>by
   have hj:=(List.getElem?_eq_some_iff.1 hx).1
   simp only [qgZ,qk hj,cond_true,qan hx,jd,wS j])) .done)
def qms (x:qaj):Prop:=rngS x.Bb∧rngI x.Bv∧rngI x.Bs∧rngB x.Br
def qkR (x:qaj):Nat:=x.Bb.size
structure qnK (x:qaj):Prop where
 Bb:okS x.Bb
 Bv:okI x.Bv
 Bs:okI x.Bs
 Br:okT x.Br
theorem qx1 {x:qaj} (h:qms x) (w:qkR x≤1048576):qnK x:=⟨(by unfold okS;simp only [qkR] at w;omega),h.2.1,h.2.2.1,trivial⟩
def qhG (a:(List qaj)):Nat:=a.length+(a.map fun x=>qkR x).sum
theorem qwQ {a:(List qaj)} (h:(rngL qms) a) (w:qhG a≤1048576):(okL qnK) a :=
 ⟨by simp only [qhG] at w;omega,fun x hx=>qx1 (h.2 x hx) (by have:=qcB (wt:=fun x:qaj=>qkR x) hx;simp only [qhG] at w;omega)⟩
def qkK (x:qw):Prop:=rngS x.Bb∧rngI x.Bf∧(rngL qms) x.Bd∧(rngL qmS) x.Au∧(rngL rngI) x.Bo∧rngI x.Ca∧rngI x.Bu
def qfN (x:qw):Nat:=x.Bb.size+qhG x.Bd+qhF x.Au+qaM x.Bo
structure qnV (x:qw):Prop where
 Bb:okS x.Bb
 Bf:okI x.Bf
 Bd:(okL qnK) x.Bd
 Au:(okL qor) x.Au
 Bo:(okL okI) x.Bo
 Ca:okI x.Ca
 Bu:okI x.Bu
theorem qws {x:qw} (h:qkK x) (w:qfN x≤1048576):qnV x:=⟨(by unfold okS;simp only [qfN] at w;omega),h.2.1,qwQ (h.2.2.1) (by simp only [qfN] at w;omega),qwY (h.2.2.2.1) (by simp only [qfN] at w;omega),qdx (h.2.2.2.2.1) (by simp only [qfN] at w;omega),h.2.2.2.2.2.1,h.2.2.2.2.2.2⟩
def qgc (a:(List qw)):Nat:=a.length+(a.map fun x=>qfN x).sum
theorem qvx {a:(List qw)} (h:(rngL qkK) a) (w:qgc a≤1048576):(okL qnV) a :=
 ⟨by simp only [qgc] at w;omega,fun x hx=>qws (h.2 x hx) (by have:=qcB (wt:=fun x:qw=>qfN x) hx;simp only [qgc] at w;omega)⟩
def qls (x:qn):Prop:=(rngL qkK) x.As
def qeB (x:qn):Nat:=qgc x.As
structure qii (x:qn):Prop where
 As:(okL qnV) x.As
theorem qs8 {x:qn} (h:qls x) (w:qeB x≤1048576):qii x:=⟨qvx (h) (by simp only [qeB] at w;omega)⟩
def qgd (x:qi):Prop:=rngS x.Bb∧rngI x.Bt∧(rngL rngI) x.Ak
def qbC (x:qi):Nat:=x.Bb.size+qaM x.Ak
structure qnC (x:qi):Prop where
 Bb:okS x.Bb
 Bt:okI x.Bt
 Ak:(okL okI) x.Ak
theorem qr4 {x:qi} (h:qgd x) (w:qbC x≤1048576):qnC x:=⟨(by unfold okS;simp only [qbC] at w;omega),h.2.1,qdx (h.2.2) (by simp only [qbC] at w;omega)⟩
def qbN (a:(List qi)):Nat:=a.length+(a.map fun x=>qbC x).sum
theorem qrJ {a:(List qi)} (h:(rngL qgd) a) (w:qbN a≤1048576):(okL qnC) a :=
 ⟨by simp only [qbN] at w;omega,fun x hx=>qr4 (h.2 x hx) (by have:=qcB (wt:=fun x:qi=>qbC x) hx;simp only [qbN] at w;omega)⟩
def qez (a:(List ByteArray)):Nat:=a.length+(a.map fun x=>x.size).sum
theorem qtC {a:(List ByteArray)} (_:(rngL rngS) a) (w:qez a≤1048576):(okL okS) a :=
 ⟨by simp only [qez] at w;omega,fun x hx=>(by unfold okS;have:=qcB (wt:=fun x:ByteArray=>x.size) hx;simp only [qez] at w;omega)⟩
def qkO (x:qK):Prop:=rngS x.Bb∧rngI x.Bv∧rngI x.Bx
def qh8 (x:qK):Nat:=x.Bb.size
structure qtl (x:qK):Prop where
 Bb:okS x.Bb
 Bv:okI x.Bv
 Bx:okI x.Bx
theorem qwH {x:qK} (h:qkO x) (w:qh8 x≤1048576):qtl x:=⟨(by unfold okS;simp only [qh8] at w;omega),h.2.1,h.2.2⟩
def qgg (a:(List qK)):Nat:=a.length+(a.map fun x=>qh8 x).sum
theorem qvA {a:(List qK)} (h:(rngL qkO) a) (w:qgg a≤1048576):(okL qtl) a :=
 ⟨by simp only [qgg] at w;omega,fun x hx=>qwH (h.2 x hx) (by have:=qcB (wt:=fun x:qK=>qh8 x) hx;simp only [qgg] at w;omega)⟩
def qmE (x:qd):Prop:=(rngL qgd) x.Aa∧(rngL rngS) x.Ak∧(rngL qkO) x.Aj
def qeM (x:qd):Nat:=qbN x.Aa+qez x.Ak+qgg x.Aj
structure qkG (x:qd):Prop where
 Aa:(okL qnC) x.Aa
 Ak:(okL okS) x.Ak
 Aj:(okL qtl) x.Aj
theorem qut {x:qd} (h:qmE x) (w:qeM x≤1048576):qkG x:=⟨qrJ (h.1) (by simp only [qeM] at w;omega),qtC (h.2.1) (by simp only [qeM] at w;omega),qvA (h.2.2) (by simp only [qeM] at w;omega)⟩
def qkV (x:qD):Prop:=(rngL rngI) x.Am∧(rngL rngI) x.Bw∧(rngL rngI) x.Bs∧(rngL rngI) x.Bl
def qfI (x:qD):Nat:=qaM x.Am+qaM x.Bw+qaM x.Bs+qaM x.Bl
structure qo2 (x:qD):Prop where
 Am:(okL okI) x.Am
 Bw:(okL okI) x.Bw
 Bs:(okL okI) x.Bs
 Bl:(okL okI) x.Bl
theorem qv9 {x:qD} (h:qkV x) (w:qfI x≤1048576):qo2 x:=⟨qdx (h.1) (by simp only [qfI] at w;omega),qdx (h.2.1) (by simp only [qfI] at w;omega),qdx (h.2.2.1) (by simp only [qfI] at w;omega),qdx (h.2.2.2) (by simp only [qfI] at w;omega)⟩
def qgh (a:(List qD)):Nat:=a.length+(a.map fun x=>qfI x).sum
theorem quU {a:(List qD)} (h:(rngL qkV) a) (w:qgh a≤1048576):(okL qo2) a :=
 ⟨by simp only [qgh] at w;omega,fun x hx=>qv9 (h.2 x hx) (by have:=qcB (wt:=fun x:qD=>qfI x) hx;simp only [qgh] at w;omega)⟩
def qnU (x:qg):Prop:=qls x.Av∧qmE x.Ab∧(rngL qkV) x.Ac
def qf3 (x:qg):Nat:=qeB x.Av+qeM x.Ab+qgh x.Ac
structure ql0 (x:qg):Prop where
 Av:qii x.Av
 Ab:qkG x.Ab
 Ac:(okL qo2) x.Ac
theorem qvB {x:qg} (h:qnU x) (w:qf3 x≤1048576):ql0 x:=⟨qs8 (h.1) (by simp only [qf3] at w;omega),qut (h.2.1) (by simp only [qf3] at w;omega),quU (h.2.2) (by simp only [qf3] at w;omega)⟩
theorem qzx {a:qaj} (_:qkR a≤1048576):Ev (fun n=>qk3 n a a) true:=by
 unfold qk3
 exact Ev.ff qiF (Ev.ff qaP (Ev.ff qaP (Ev.ff qti (.done))))
theorem qyD {a:(List qaj)} (h:qhG a≤1048576):Ev (fun n=>qlF n a a) true:=by
 have hl:a.length≤1048576:=by simp only [qhG] at h;omega
 unfold qlF
 exact Ev.ff (by simp) (Ev.bind (b:=.nxt (a.length:Int)) (qjx (eqf:=qk3) (fun x hx=>qzx (by have:=qcB (wt:=fun x:qaj=>qkR x) hx;simp only [qhG] at h;omega))
  (fun n=>by simp only [qg5,ql (je _),cond_false])
  (fun n j x hx=>by
   have hj:=(List.getElem?_eq_some_iff.1 hx).1
   simp only [qg5,qk hj,cond_true,qan hx,jd,wS j])) .done)
theorem qyA {a:qw} (h:qfN a≤1048576):Ev (fun n=>qjL n a a) true:=by
 unfold qjL
 simp only [qfN] at h
 exact Ev.ff qiF (Ev.ff qaP (Ev.bind (qyD (a:=a.Bd) (by omega)) (Ev.ff rfl (Ev.bind (qys (a:=a.Au) (by omega)) (Ev.ff rfl (Ev.bind (qdN (a:=a.Bo) (by omega)) (Ev.ff rfl (Ev.ff qaP (Ev.ff qaP (.done))))))))))
theorem qya {a:(List qw)} (h:qgc a≤1048576):Ev (fun n=>qkj n a a) true:=by
 have hl:a.length≤1048576:=by simp only [qgc] at h;omega
 unfold qkj
 exact Ev.ff (by simp) (Ev.bind (b:=.nxt (a.length:Int)) (qjx (eqf:=qjL) (fun x hx=>qyA (by have:=qcB (wt:=fun x:qw=>qfN x) hx;simp only [qgc] at h;omega))
  (fun n=>by simp only [qgk,ql (je _),cond_false])
  (fun n j x hx=>by
   have hj:=(List.getElem?_eq_some_iff.1 hx).1
   simp only [qgk,qk hj,cond_true,qan hx,jd,wS j])) .done)
theorem qvn {a:qn} (h:qeB a≤1048576):Ev (fun n=>qiN n a a) true:=by
 unfold qiN
 simp only [qeB] at h
 exact Ev.bind (qya (a:=a.As) (by omega)) (Ev.ff rfl (.done))
theorem qtO {a:qi} (h:qbC a≤1048576):Ev (fun n=>qgm n a a) true:=by
 unfold qgm
 simp only [qbC] at h
 exact Ev.ff qiF (Ev.ff qaP (Ev.bind (qdN (a:=a.Ak) (by omega)) (Ev.ff rfl (.done))))
theorem qtq {a:(List qi)} (h:qbN a≤1048576):Ev (fun n=>qhf n a a) true:=by
 have hl:a.length≤1048576:=by simp only [qbN] at h;omega
 unfold qhf
 exact Ev.ff (by simp) (Ev.bind (b:=.nxt (a.length:Int)) (qjx (eqf:=qgm) (fun x hx=>qtO (by have:=qcB (wt:=fun x:qi=>qbC x) hx;simp only [qbN] at h;omega))
  (fun n=>by simp only [qd6,ql (je _),cond_false])
  (fun n j x hx=>by
   have hj:=(List.getElem?_eq_some_iff.1 hx).1
   simp only [qd6,qk hj,cond_true,qan hx,jd,wS j])) .done)
theorem qvl {a:(List ByteArray)} (h:qez a≤1048576):Ev (fun n=>qiG n a a) true:=by
 have hl:a.length≤1048576:=by simp only [qez] at h;omega
 unfold qiG
 exact Ev.ff (by simp) (Ev.bind (b:=.nxt (a.length:Int)) (qjx (eqf:=fun _ x y=>some (!(x.toList != y.toList))) (fun x _=>Ev.now (by simp))
  (fun n=>by simp only [qfh,ql (je _),cond_false])
  (fun n j x hx=>by
   have hj:=(List.getElem?_eq_some_iff.1 hx).1
   simp only [qfh,qk hj,cond_true,qan hx,jd,Bool.not_not,wS j])) .done)
theorem qyJ {a:qK} (_:qh8 a≤1048576):Ev (fun n=>qjK n a a) true:=by
 unfold qjK
 exact Ev.ff qiF (Ev.ff qaP (Ev.ff qaP (.done)))
theorem qxw {a:(List qK)} (h:qgg a≤1048576):Ev (fun n=>qks n a a) true:=by
 have hl:a.length≤1048576:=by simp only [qgg] at h;omega
 unfold qks
 exact Ev.ff (by simp) (Ev.bind (b:=.nxt (a.length:Int)) (qjx (eqf:=qjK) (fun x hx=>qyJ (by have:=qcB (wt:=fun x:qK=>qh8 x) hx;simp only [qgg] at h;omega))
  (fun n=>by simp only [qgr,ql (je _),cond_false])
  (fun n j x hx=>by
   have hj:=(List.getElem?_eq_some_iff.1 hx).1
   simp only [qgr,qk hj,cond_true,qan hx,jd,wS j])) .done)
theorem qwF {a:qd} (h:qeM a≤1048576):Ev (fun n=>qjy n a a) true:=by
 unfold qjy
 simp only [qeM] at h
 exact Ev.bind (qtq (a:=a.Aa) (by omega)) (Ev.ff rfl (Ev.bind (qvl (a:=a.Ak) (by omega)) (Ev.ff rfl (Ev.bind (qxw (a:=a.Aj) (by omega)) (Ev.ff rfl (.done))))))
theorem qyE {a:qD} (h:qfI a≤1048576):Ev (fun n=>qj2 n a a) true:=by
 unfold qj2
 simp only [qfI] at h
 exact Ev.bind (qdN (a:=a.Am) (by omega)) (Ev.ff rfl (Ev.bind (qdN (a:=a.Bw) (by omega)) (Ev.ff rfl (Ev.bind (qdN (a:=a.Bs) (by omega)) (Ev.ff rfl (Ev.bind (qdN (a:=a.Bl) (by omega)) (Ev.ff rfl (.done))))))))
theorem qxe {a:(List qD)} (h:qgh a≤1048576):Ev (fun n=>qki n a a) true:=by
 have hl:a.length≤1048576:=by simp only [qgh] at h;omega
 unfold qki
 exact Ev.ff (by simp) (Ev.bind (b:=.nxt (a.length:Int)) (qjx (eqf:=qj2) (fun x hx=>qyE (by have:=qcB (wt:=fun x:qD=>qfI x) hx;simp only [qgh] at h;omega))
  (fun n=>by simp only [qgx,ql (je _),cond_false])
  (fun n j x hx=>by
   have hj:=(List.getElem?_eq_some_iff.1 hx).1
   simp only [qgx,qk hj,cond_true,qan hx,jd,wS j])) .done)
theorem qxW {a:qg} (h:qf3 a≤1048576):Ev (fun n=>qko n a a) true:=by
 unfold qko
 simp only [qf3] at h
 exact Ev.bind (qvn (a:=a.Av) (by omega)) (Ev.ff rfl (Ev.bind (qwF (a:=a.Ab) (by omega)) (Ev.ff rfl (Ev.bind (qxe (a:=a.Ac) (by omega)) (Ev.ff rfl (.done))))))
theorem qgA {a:(List Int)} {left:Int} (h:(rngL rngI) a) (h0:0≤left) (h1:left≤1048576):Sz (fun n=>qbS n a left) (fun r=>r=left-(qaM a:Int)) :=
 Sz.less h0 h1 (by omega) (by have:=h.1;omega) (fun _=>rfl)
theorem qxX {a:qr} {left:Int} (h:qio a) (h0:0≤left) (h1:left≤1048576):Sz (fun n=>qix n a left) (fun r=>r=left-(qd7 a:Int)):=by
 unfold qix
 obtain ⟨h_0,h_1,h_2⟩:=h
 exact Sz.step (qgA (a:=a.Bm) h_0 (by omega) (by omega)) fun r0 p0 q0=>Sz.step (qgA (a:=a.Bj) h_1 (by omega) (by omega)) fun r1 p1 q1=>Sz.step (qgA (a:=a.Bh) h_2 (by omega) (by omega)) fun r2 p2 q2=>Sz.done p2 (by simp only [qd7];omega)
theorem qsH {a:(List qr)} {left:Int} (h:(rngL qio) a) (h0:0≤left) (h1:left≤1048576):Sz (fun n=>qjq n a left) (fun r=>r=left-(qdc a:Int)) :=
 Sz.list (Lf:=qet a) (wt:=fun x:qr=>qd7 x) (el:=qix) h0 h1 h.1 (fun x hx left p q=>qxX (h.2 x hx) p q)
  (fun acc n=>by simp only [qet,ql (je _),cond_false])
  (fun acc n j x hx=>by
   have hj:=(List.getElem?_eq_some_iff.1 hx).1
   have hl:=h.1
   simp only [qet,qk hj,cond_true,qan hx,jd,wS j])
  (fun _=>rfl)
theorem qzB {a:qG} {left:Int} (h:qmS a) (h0:0≤left) (h1:left≤1048576):Sz (fun n=>qk7 n a left) (fun r=>r=left-(qi6 a:Int)):=by
 unfold qk7
 obtain ⟨h_0,h_1,h_2,h_3,h_4,h_5⟩:=h
 exact Sz.step (qsH (a:=a.Bn) h_4 (by omega) (by omega)) fun r0 p0 q0=>Sz.step (qsH (a:=a.Bc) h_5 (by omega) (by omega)) fun r1 p1 q1=>Sz.done p1 (by simp only [qi6];omega)
theorem qzh {a:(List qG)} {left:Int} (h:(rngL qmS) a) (h0:0≤left) (h1:left≤1048576):Sz (fun n=>qnw n a left) (fun r=>r=left-(qhF a:Int)) :=
 Sz.list (Lf:=qfZ a) (wt:=fun x:qG=>qi6 x) (el:=qk7) h0 h1 h.1 (fun x hx left p q=>qzB (h.2 x hx) p q)
  (fun acc n=>by simp only [qfZ,ql (je _),cond_false])
  (fun acc n j x hx=>by
   have hj:=(List.getElem?_eq_some_iff.1 hx).1
   have hl:=h.1
   simp only [qfZ,qk hj,cond_true,qan hx,jd,wS j])
  (fun _=>rfl)
theorem qzA {a:qaj} {left:Int} (h:qms a) (h0:0≤left) (h1:left≤1048576):Sz (fun n=>qkX n a left) (fun r=>r=left-(qkR a:Int)):=by
 unfold qkX
 obtain ⟨h_0,h_1,h_2,h_3⟩:=h
 exact Sz.strStep h_0 (by omega) (by omega) fun p0 q0=>Sz.done p0 (by simp only [qkR];omega)
theorem qy8 {a:(List qaj)} {left:Int} (h:(rngL qms) a) (h0:0≤left) (h1:left≤1048576):Sz (fun n=>qnk n a left) (fun r=>r=left-(qhG a:Int)) :=
 Sz.list (Lf:=qfM a) (wt:=fun x:qaj=>qkR x) (el:=qkX) h0 h1 h.1 (fun x hx left p q=>qzA (h.2 x hx) p q)
  (fun acc n=>by simp only [qfM,ql (je _),cond_false])
  (fun acc n j x hx=>by
   have hj:=(List.getElem?_eq_some_iff.1 hx).1
   have hl:=h.1
   simp only [qfM,qk hj,cond_true,qan hx,jd,wS j])
  (fun _=>rfl)
theorem qyG {a:qw} {left:Int} (h:qkK a) (h0:0≤left) (h1:left≤1048576):Sz (fun n=>qjQ n a left) (fun r=>r=left-(qfN a:Int)):=by
 unfold qjQ
 obtain ⟨h_0,h_1,h_2,h_3,h_4,h_5,h_6⟩:=h
 exact Sz.strStep h_0 (by omega) (by omega) fun p0 q0=>Sz.step (qy8 (a:=a.Bd) h_2 (by omega) (by omega)) fun r1 p1 q1=>Sz.step (qzh (a:=a.Au) h_3 (by omega) (by omega)) fun r2 p2 q2=>Sz.step (qgA (a:=a.Bo) h_4 (by omega) (by omega)) fun r3 p3 q3=>Sz.done p3 (by simp only [qfN];omega)
theorem qw7 {a:(List qw)} {left:Int} (h:(rngL qkK) a) (h0:0≤left) (h1:left≤1048576):Sz (fun n=>qmo n a left) (fun r=>r=left-(qgc a:Int)) :=
 Sz.list (Lf:=qeW a) (wt:=fun x:qw=>qfN x) (el:=qjQ) h0 h1 h.1 (fun x hx left p q=>qyG (h.2 x hx) p q)
  (fun acc n=>by simp only [qeW,ql (je _),cond_false])
  (fun acc n j x hx=>by
   have hj:=(List.getElem?_eq_some_iff.1 hx).1
   have hl:=h.1
   simp only [qeW,qk hj,cond_true,qan hx,jd,wS j])
  (fun _=>rfl)
theorem qvH {a:qn} {left:Int} (h:qls a) (h0:0≤left) (h1:left≤1048576):Sz (fun n=>qiR n a left) (fun r=>r=left-(qeB a:Int)):=by
 unfold qiR
 have h_0:=h
 exact Sz.step (qw7 (a:=a.As) h_0 (by omega) (by omega)) fun r0 p0 q0=>Sz.done p0 (by simp only [qeB];omega)
theorem qt6 {a:qi} {left:Int} (h:qgd a) (h0:0≤left) (h1:left≤1048576):Sz (fun n=>qgj n a left) (fun r=>r=left-(qbC a:Int)):=by
 unfold qgj
 obtain ⟨h_0,h_1,h_2⟩:=h
 exact Sz.strStep h_0 (by omega) (by omega) fun p0 q0=>Sz.step (qgA (a:=a.Ak) h_2 (by omega) (by omega)) fun r1 p1 q1=>Sz.done p1 (by simp only [qbC];omega)
theorem qs2 {a:(List qi)} {left:Int} (h:(rngL qgd) a) (h0:0≤left) (h1:left≤1048576):Sz (fun n=>qjf n a left) (fun r=>r=left-(qbN a:Int)) :=
 Sz.list (Lf:=qcY a) (wt:=fun x:qi=>qbC x) (el:=qgj) h0 h1 h.1 (fun x hx left p q=>qt6 (h.2 x hx) p q)
  (fun acc n=>by simp only [qcY,ql (je _),cond_false])
  (fun acc n j x hx=>by
   have hj:=(List.getElem?_eq_some_iff.1 hx).1
   have hl:=h.1
   simp only [qcY,qk hj,cond_true,qan hx,jd,wS j])
  (fun _=>rfl)
theorem quX {a:(List ByteArray)} {left:Int} (h:(rngL rngS) a) (h0:0≤left) (h1:left≤1048576):Sz (fun n=>qlb n a left) (fun r=>r=left-(qez a:Int)) :=
 Sz.list (Lf:=qdE a) (wt:=fun x:ByteArray=>x.size) (el:=fun _ (x:ByteArray) acc=>some (W64 (acc-(x.size:Int)))) h0 h1 h.1 (fun x hx left p q=>Sz.str (h.2 x hx) p q)
  (fun acc n=>by simp only [qdE,ql (je _),cond_false])
  (fun acc n j x hx=>by
   have hj:=(List.getElem?_eq_some_iff.1 hx).1
   have hl:=h.1
   simp only [qdE,qk hj,cond_true,qan hx,jd,wS j])
  (fun _=>rfl)
theorem qze {a:qK} {left:Int} (h:qkO a) (h0:0≤left) (h1:left≤1048576):Sz (fun n=>qjM n a left) (fun r=>r=left-(qh8 a:Int)):=by
 unfold qjM
 obtain ⟨h_0,h_1,h_2⟩:=h
 exact Sz.strStep h_0 (by omega) (by omega) fun p0 q0=>Sz.done p0 (by simp only [qh8];omega)
theorem qw9 {a:(List qK)} {left:Int} (h:(rngL qkO) a) (h0:0≤left) (h1:left≤1048576):Sz (fun n=>qmN n a left) (fun r=>r=left-(qgg a:Int)) :=
 Sz.list (Lf:=qe5 a) (wt:=fun x:qK=>qh8 x) (el:=qjM) h0 h1 h.1 (fun x hx left p q=>qze (h.2 x hx) p q)
  (fun acc n=>by simp only [qe5,ql (je _),cond_false])
  (fun acc n j x hx=>by
   have hj:=(List.getElem?_eq_some_iff.1 hx).1
   have hl:=h.1
   simp only [qe5,qk hj,cond_true,qan hx,jd,wS j])
  (fun _=>rfl)
theorem qw5 {a:qd} {left:Int} (h:qmE a) (h0:0≤left) (h1:left≤1048576):Sz (fun n=>qjD n a left) (fun r=>r=left-(qeM a:Int)):=by
 unfold qjD
 obtain ⟨h_0,h_1,h_2⟩:=h
 exact Sz.step (qs2 (a:=a.Aa) h_0 (by omega) (by omega)) fun r0 p0 q0=>Sz.step (quX (a:=a.Ak) h_1 (by omega) (by omega)) fun r1 p1 q1=>Sz.step (qw9 (a:=a.Aj) h_2 (by omega) (by omega)) fun r2 p2 q2=>Sz.done p2 (by simp only [qeM];omega)
theorem qyo {a:qD} {left:Int} (h:qkV a) (h0:0≤left) (h1:left≤1048576):Sz (fun n=>qjF n a left) (fun r=>r=left-(qfI a:Int)):=by
 unfold qjF
 obtain ⟨h_0,h_1,h_2,h_3⟩:=h
 exact Sz.step (qgA (a:=a.Am) h_0 (by omega) (by omega)) fun r0 p0 q0=>Sz.step (qgA (a:=a.Bw) h_1 (by omega) (by omega)) fun r1 p1 q1=>Sz.step (qgA (a:=a.Bs) h_2 (by omega) (by omega)) fun r2 p2 q2=>Sz.step (qgA (a:=a.Bl) h_3 (by omega) (by omega)) fun r3 p3 q3=>Sz.done p3 (by simp only [qfI];omega)
theorem qxi {a:(List qD)} {left:Int} (h:(rngL qkV) a) (h0:0≤left) (h1:left≤1048576):Sz (fun n=>qmr n a left) (fun r=>r=left-(qgh a:Int)) :=
 Sz.list (Lf:=qe0 a) (wt:=fun x:qD=>qfI x) (el:=qjF) h0 h1 h.1 (fun x hx left p q=>qyo (h.2 x hx) p q)
  (fun acc n=>by simp only [qe0,ql (je _),cond_false])
  (fun acc n j x hx=>by
   have hj:=(List.getElem?_eq_some_iff.1 hx).1
   have hl:=h.1
   simp only [qe0,qk hj,cond_true,qan hx,jd,wS j])
  (fun _=>rfl)
theorem qxS {a:qg} {left:Int} (h:qnU a) (h0:0≤left) (h1:left≤1048576):Sz (fun n=>qkg n a left) (fun r=>r=left-(qf3 a:Int)):=by
 unfold qkg
 obtain ⟨h_0,h_1,h_2⟩:=h
 exact Sz.step (qvH (a:=a.Av) h_0 (by omega) (by omega)) fun r0 p0 q0=>Sz.step (qw5 (a:=a.Ab) h_1 (by omega) (by omega)) fun r1 p1 q1=>Sz.step (qxi (a:=a.Ac) h_2 (by omega) (by omega)) fun r2 p2 q2=>Sz.done p2 (by simp only [qf3];omega)
theorem qdO {a:(List Int)} (h:qaM a≤1048576):Ev (fun n=>qaQ n a) a:=by
 have hl:a.length≤1048576:=by simp only [qaM] at h;omega
 unfold qaQ
 exact Ev.bindN (qiU (by omega)) (Ev.bind (b:=(a,(a.length:Int))) (qjC (cp:=fun _ x=>some x) (fun _ _=>.done)
  (fun acc n=>by simp only [qfQ,ql (je _),cond_false])
  (fun acc n j x y hx hy=>by
   have hj:=(List.getElem?_eq_some_iff.1 hx).1
   simp only [qfQ,qk hj,cond_true,qan hx,qan hy,jd,wS j])) .done)
theorem qxZ {a:qr} (h:qd7 a≤1048576):Ev (fun n=>qiD n a) a:=by
 unfold qiD
 simp only [qd7] at h
 exact Ev.bind (qdO (a:=a.Bm) (by omega)) (Ev.bind (qdO (a:=a.Bj) (by omega)) (Ev.bind (qdO (a:=a.Bh) (by omega)) (.done)))
theorem qss {a:(List qr)} (h:qdc a≤1048576):Ev (fun n=>qhV n a) a:=by
 have hl:a.length≤1048576:=by simp only [qdc] at h;omega
 unfold qhV
 exact Ev.bindN (qiU (by omega)) (Ev.bind (b:=(a,(a.length:Int))) (qjC (cp:=qiD) (fun x hx=>qxZ (by have:=qcB (wt:=fun x:qr=>qd7 x) hx;simp only [qdc] at h;omega))
  (fun acc n=>by simp only [qfP,ql (je _),cond_false])
  (fun acc n j x y hx hy=>by
   have hj:=(List.getElem?_eq_some_iff.1 hx).1
   simp only [qfP,qk hj,cond_true,qan hx,qan hy,jd,wS j])) .done)
theorem qzH {a:qG} (h:qi6 a≤1048576):Ev (fun n=>qlg n a) a:=by
 unfold qlg
 simp only [qi6] at h
 exact Ev.bind (qss (a:=a.Bn) (by omega)) (Ev.bind (qss (a:=a.Bc) (by omega)) (.done))
theorem qyz {a:(List qG)} (h:qhF a≤1048576):Ev (fun n=>qlG n a) a:=by
 have hl:a.length≤1048576:=by simp only [qhF] at h;omega
 unfold qlG
 exact Ev.bindN (qiU (by omega)) (Ev.bind (b:=(a,(a.length:Int))) (qjC (cp:=qlg) (fun x hx=>qzH (by have:=qcB (wt:=fun x:qG=>qi6 x) hx;simp only [qhF] at h;omega))
  (fun acc n=>by simp only [qgU,ql (je _),cond_false])
  (fun acc n j x y hx hy=>by
   have hj:=(List.getElem?_eq_some_iff.1 hx).1
   simp only [qgU,qk hj,cond_true,qan hx,qan hy,jd,wS j])) .done)
theorem qzT {a:qaj} (_:qkR a≤1048576):Ev (fun n=>qk4 n a) a:=by
 unfold qk4
 exact .done
theorem qyW {a:(List qaj)} (h:qhG a≤1048576):Ev (fun n=>qlC n a) a:=by
 have hl:a.length≤1048576:=by simp only [qhG] at h;omega
 unfold qlC
 exact Ev.bindN (qiU (by omega)) (Ev.bind (b:=(a,(a.length:Int))) (qjC (cp:=qk4) (fun x hx=>qzT (by have:=qcB (wt:=fun x:qaj=>qkR x) hx;simp only [qhG] at h;omega))
  (fun acc n=>by simp only [qg9,ql (je _),cond_false])
  (fun acc n j x y hx hy=>by
   have hj:=(List.getElem?_eq_some_iff.1 hx).1
   simp only [qg9,qk hj,cond_true,qan hx,qan hy,jd,wS j])) .done)
theorem qy9 {a:qw} (h:qfN a≤1048576):Ev (fun n=>qjJ n a) a:=by
 unfold qjJ
 simp only [qfN] at h
 exact Ev.bind (qyW (a:=a.Bd) (by omega)) (Ev.bind (qyz (a:=a.Au) (by omega)) (Ev.bind (qdO (a:=a.Bo) (by omega)) (.done)))
theorem qxf {a:(List qw)} (h:qgc a≤1048576):Ev (fun n=>qkm n a) a:=by
 have hl:a.length≤1048576:=by simp only [qgc] at h;omega
 unfold qkm
 exact Ev.bindN (qiU (by omega)) (Ev.bind (b:=(a,(a.length:Int))) (qjC (cp:=qjJ) (fun x hx=>qy9 (by have:=qcB (wt:=fun x:qw=>qfN x) hx;simp only [qgc] at h;omega))
  (fun acc n=>by simp only [qgp,ql (je _),cond_false])
  (fun acc n j x y hx hy=>by
   have hj:=(List.getElem?_eq_some_iff.1 hx).1
   simp only [qgp,qk hj,cond_true,qan hx,qan hy,jd,wS j])) .done)
theorem quQ {a:qn} (h:qeB a≤1048576):Ev (fun n=>qiC n a) a:=by
 unfold qiC
 simp only [qeB] at h
 exact Ev.bind (qxf (a:=a.As) (by omega)) (.done)
theorem qtR {a:qi} (h:qbC a≤1048576):Ev (fun n=>qgw n a) a:=by
 unfold qgw
 simp only [qbC] at h
 exact Ev.bind (qdO (a:=a.Ak) (by omega)) (.done)
theorem qtG {a:(List qi)} (h:qbN a≤1048576):Ev (fun n=>qhA n a) a:=by
 have hl:a.length≤1048576:=by simp only [qbN] at h;omega
 unfold qhA
 exact Ev.bindN (qiU (by omega)) (Ev.bind (b:=(a,(a.length:Int))) (qjC (cp:=qgw) (fun x hx=>qtR (by have:=qcB (wt:=fun x:qi=>qbC x) hx;simp only [qbN] at h;omega))
  (fun acc n=>by simp only [qd2,ql (je _),cond_false])
  (fun acc n j x y hx hy=>by
   have hj:=(List.getElem?_eq_some_iff.1 hx).1
   simp only [qd2,qk hj,cond_true,qan hx,qan hy,jd,wS j])) .done)
theorem qu8 {a:(List ByteArray)} (h:qez a≤1048576):Ev (fun n=>qi4 n a) a:=by
 have hl:a.length≤1048576:=by simp only [qez] at h;omega
 unfold qi4
 exact Ev.bindN (qiU (by omega)) (Ev.bind (b:=(a,(a.length:Int))) (qjC (cp:=fun _ x=>some x) (fun _ _=>.done)
  (fun acc n=>by simp only [qfp,ql (je _),cond_false])
  (fun acc n j x y hx hy=>by
   have hj:=(List.getElem?_eq_some_iff.1 hx).1
   simp only [qfp,qk hj,cond_true,qan hx,qan hy,jd,wS j])) .done)
theorem qzc {a:qK} (_:qh8 a≤1048576):Ev (fun n=>qj1 n a) a:=by
 unfold qj1
 exact .done
theorem qxB {a:(List qK)} (h:qgg a≤1048576):Ev (fun n=>qkB n a) a:=by
 have hl:a.length≤1048576:=by simp only [qgg] at h;omega
 unfold qkB
 exact Ev.bindN (qiU (by omega)) (Ev.bind (b:=(a,(a.length:Int))) (qjC (cp:=qj1) (fun x hx=>qzc (by have:=qcB (wt:=fun x:qK=>qh8 x) hx;simp only [qgg] at h;omega))
  (fun acc n=>by simp only [qgu,ql (je _),cond_false])
  (fun acc n j x y hx hy=>by
   have hj:=(List.getElem?_eq_some_iff.1 hx).1
   simp only [qgu,qk hj,cond_true,qan hx,qan hy,jd,wS j])) .done)
theorem qwq {a:qd} (h:qeM a≤1048576):Ev (fun n=>qjn n a) a:=by
 unfold qjn
 simp only [qeM] at h
 exact Ev.bind (qtG (a:=a.Aa) (by omega)) (Ev.bind (qu8 (a:=a.Ak) (by omega)) (Ev.bind (qxB (a:=a.Aj) (by omega)) (.done)))
theorem qyI {a:qD} (h:qfI a≤1048576):Ev (fun n=>qjU n a) a:=by
 unfold qjU
 simp only [qfI] at h
 exact Ev.bind (qdO (a:=a.Am) (by omega)) (Ev.bind (qdO (a:=a.Bw) (by omega)) (Ev.bind (qdO (a:=a.Bs) (by omega)) (Ev.bind (qdO (a:=a.Bl) (by omega)) (.done))))
theorem qx8 {a:(List qD)} (h:qgh a≤1048576):Ev (fun n=>qkh n a) a:=by
 have hl:a.length≤1048576:=by simp only [qgh] at h;omega
 unfold qkh
 exact Ev.bindN (qiU (by omega)) (Ev.bind (b:=(a,(a.length:Int))) (qjC (cp:=qjU) (fun x hx=>qyI (by have:=qcB (wt:=fun x:qD=>qfI x) hx;simp only [qgh] at h;omega))
  (fun acc n=>by simp only [qgq,ql (je _),cond_false])
  (fun acc n j x y hx hy=>by
   have hj:=(List.getElem?_eq_some_iff.1 hx).1
   simp only [qgq,qk hj,cond_true,qan hx,qan hy,jd,wS j])) .done)
theorem qxz {a:qg} (h:qf3 a≤1048576):Ev (fun n=>qkn n a) a:=by
 unfold qkn
 simp only [qf3] at h
 exact Ev.bind (quQ (a:=a.Av) (by omega)) (Ev.bind (qwq (a:=a.Ab) (by omega)) (Ev.bind (qx8 (a:=a.Ac) (by omega)) (.done)))
end Go.Fw


namespace Go.Fw
open Go
set_option maxRecDepth 100000
theorem qcS {n:Nat} {x lo hi:Int}:qau n x lo hi=some (inI x lo hi):=by
 simp only [qau,qnu,qoY];rfl
theorem qdn {n:Nat} {x lo hi:Int}:qaR n x lo hi=some (inI x lo hi):=by
 simp only [qaR,qnu,qoY];rfl
def bt (s:ByteArray) (j:Nat):Nat:=(s.data.toList.getD j 0).toNat
theorem qxQ {s:ByteArray} {j:Nat} (h:j<s.size):atS s (j:Int)=some (bt s j:Int):=by
 have h':j<s.data.size:=h
 have hl:j<s.data.toList.length:=by simpa using h'
 unfold atS
 rw [if_pos (by omega),jn]
 have:s[j]?=some (s.data.toList.getD j 0):=by
  rw [getElem?_pos s j h,jw,ji hl]
  rfl
 rw [this]
 rfl
def letB (b:Nat):Bool:=decide (97≤b)&&decide (b≤122)
def digB (b:Nat):Bool:=decide (48≤b)&&decide (b≤57)
def chB (s:ByteArray) (j:Nat):Bool:=letB (bt s j) || digB (bt s j)&&decide (0<j)
def nameB (s:ByteArray):Bool:=(decide (1≤s.size)&&decide (s.size≤8))&&allN (chB s) s.size
theorem qmy {s:ByteArray} (h:okS s):Ev (fun n=>qf7 n s) (nameB s):=by
 unfold okS at h
 have hL:Ev (fun n=>qdV s n 0) (bif allN (chB s) s.size then .nxt (s.size:Int) else .ret false):=by
  refine qeJ ?_ (fun j hj X hX=>?_)
  ·exact Ev.succ (by simp only [qdV,ql (je _),cond_false];exact .done)
  ·refine Ev.succ ?_
   simp only [qdV,qk hj,cond_true,qxQ hj,jd,qnu,qoY,wS j]
   have e1:(decide ((bt s j:Int) ≥ 97)&&decide ((bt s j:Int)≤122))=letB (bt s j):=by unfold letB;rw [jm];simp;omega
   have e2:(decide ((bt s j:Int) ≥ 48)&&decide ((bt s j:Int)≤57))=digB (bt s j):=by unfold digB;rw [jm];simp;omega
   have e3:decide ((j:Int) > 0)=decide (0<j):=by rw [jm];simp
   rw [e1,e2,e3]
   unfold chB
   cases letB (bt s j)<;>cases digB (bt s j)<;>cases decide (0<j)<;>first|exact hX|exact .done
 unfold qf7
 refine Ev.cast (r:=bif allN (chB s) s.size then (decide (1≤s.size)&&decide (s.size≤8)) else false) (Ev.bindB hL (fun _=>?_) (fun _=>.done)) ?_
 ·simp only [qnu,qoY]
  exact Ev.now (by congr 1;rw [jm];simp;omega)
 ·unfold nameB
  cases allN (chB s) s.size<;>simp
def cutset:List UInt8:=[97,98,99,100,101,102,103,104,105,106,107,108,109,110,111,112,113,114,115,116,117,118,119,120,121,122,48,49,50,51,52,53,54,55,56,57]
theorem qri (b:UInt8):cutset.contains b=(letB b.toNat || digB b.toNat):=by
 have h0:(List.range 256).all (fun m=>cutset.contains (UInt8.ofNat m)==(letB (UInt8.ofNat m).toNat || digB (UInt8.ofNat m).toNat))=true:=by kernel_rfl
 have h:=List.all_eq_true.1 h0 b.toNat (List.mem_range.2 b.toNat_lt)
 rw [beq_iff_eq] at h
 simpa using h
def letters:List UInt8:=[97,98,99,100,101,102,103,104,105,106,107,108,109,110,111,112,113,114,115,116,117,118,119,120,121,122]
theorem qvC (m:Nat) (hm:m<256):decide ((Lib.indexByte letters m.toUInt8) ≥ 0)=letB m:=by
 have h0:(List.range 256).all (fun m=>decide ((Lib.indexByte letters m.toUInt8) ≥ 0)==letB m)=true:=by kernel_rfl
 have h:=List.all_eq_true.1 h0 m (List.mem_range.2 hm)
 rwa [beq_iff_eq] at h
theorem qsc {α:Type} {p:α→Bool} {l:List α}:l.dropWhile p=[]↔∀ x,x ∈ l→p x=true:=by
 induction l with
 | nil=>simp
 | cons y l ih =>
  rw [List.dropWhile_cons]
  by_cases h:p y=true
  ·rw [if_pos h,ih];simp [h]
  ·rw [if_neg h];simp [h]
theorem qrW {α:Type} {p:α→Bool} {l:List α} (h:∀ x,x ∈ l.dropWhile p→p x=true):∀ x,x ∈ l→p x=true:=by
 induction l with
 | nil=>simp
 | cons y l ih =>
  rw [List.dropWhile_cons] at h
  by_cases hy:p y=true
  ·rw [if_pos hy] at h
   intro x hx
   rcases List.mem_cons.1 hx with rfl|hx
   ·exact hy
   ·exact ih h x hx
  ·rw [if_neg hy] at h
   exact h
theorem qxx {l cs:List UInt8}:Lib.trimS l cs=[]↔∀ x,x ∈ l→cs.contains x=true:=by
 unfold Lib.trimS Lib.trimRightS Lib.trimLeftS
 rw [qsc]
 constructor
 ·intro h x hx
  exact qrW (p:=(cs.contains ·)) (l:=l.reverse) (fun y hy=>h y (List.mem_reverse.2 hy)) x (List.mem_reverse.2 hx)
 ·intro h x hx
  exact h x (List.mem_reverse.1 ((List.dropWhile_suffix _).subset (List.mem_reverse.1 hx)))
theorem qhH {a b:ByteArray}:(a.toList==b.toList)=decide (a=b):=by
 rw [jm,beq_iff_eq,decide_eq_true_iff]
 constructor
 ·intro h
  exact ByteArray.ext (by have:=congrArg List.toArray h;simpa [ByteArray.toList_eq] using this)
 ·rintro rfl;rfl
end Go.Fw


namespace Go.Fw
open Go
set_option maxRecDepth 100000
theorem qzp {s:ByteArray} {j:Nat} (h:j<s.data.toList.length):bt s j=(s.data.toList[j]).toNat:=by
 unfold bt;rw [jw,ji h];rfl
theorem qz8 {s:ByteArray} {j:Nat}:bt s j<256:=UInt8.toNat_lt _
theorem qpG {n:Nat} {s:ByteArray} (h:okS s):qik n s=some (nameB s):=by
 unfold okS at h
 have hl:s.data.toList.length=s.size:=by simp
 simp only [qik,qdn,jd]
 cases hI:inI (s.size:Int) 1 8 with
 | false =>
  have hs:(decide (1≤s.size)&&decide (s.size≤8))=false:=by rw [qw1] at hI;rw [Bool.and_eq_false_iff,decide_eq_false_iff_not,decide_eq_false_iff_not];omega
  simp [nameB,hs]
 | true =>
  have hs:1≤s.size∧s.size≤8:=by rw [qbh] at hI;omega
  have hT:qiQ n s (⟨#[97,98,99,100,101,102,103,104,105,106,107,108,109,110,111,112,113,114,115,116,117,118,119,120,121,122,48,49,50,51,52,53,54,55,56,57]⟩:ByteArray)=some ⟨(Lib.trimS s.data.toList cutset).toArray⟩:=by
   unfold qiQ
   rw [if_pos ⟨by omega,by decide,by decide⟩]
   rfl
  rw [hT]
  simp only [cond_true,jd]
  have hE:(((⟨(Lib.trimS s.data.toList cutset).toArray⟩:ByteArray).toList==(⟨#[]⟩:ByteArray).toList))=allN (fun j=>letB (bt s j) || digB (bt s j)) s.size:=by
   rw [qhH,jm,decide_eq_true_iff,qal]
   have:((⟨(Lib.trimS s.data.toList cutset).toArray⟩:ByteArray)=⟨#[]⟩)↔Lib.trimS s.data.toList cutset=[]:=by
    constructor
    ·intro he
     have:=congrArg (fun x:ByteArray=>x.data.toList) he
     simpa using this
    ·intro he;rw [he]
   rw [this,qxx]
   constructor
   ·intro hx j hj
    have hj':j<s.data.toList.length:=by omega
    have:=hx _ (jp hj')
    rw [qri,←qzp hj'] at this
    exact this
   ·intro hx x hm
    obtain ⟨j,hj,rfl⟩:=jP hm
    have:=hx j (by omega)
    rw [qri,←qzp hj]
    exact this
  rw [hE]
  have h0:atS s 0=some (bt s 0:Int):=qxQ (j:=0) (by omega)
  have hI2:decide (Lib.indexByte letters (bt s 0:Int).toNat.toUInt8 ≥ 0)=letB (bt s 0):=by
   rw [jn];exact qvC _ qz8
  have hF:∀ b:Bool,(bif b then (atS s 0).bind fun y1=>(qgJ n (⟨#[97,98,99,100,101,102,103,104,105,106,107,108,109,110,111,112,113,114,115,116,117,118,119,120,121,122]⟩:ByteArray) (⟨y1⟩:IntK .u8)).bind fun r3=>some (decide (r3 ≥ 0)) else some false)=some (b&&letB (bt s 0)):=by
   intro b
   cases b with
   | false=>rfl
   | true =>
    rw [h0]
    simp only [cond_true,jd,qgJ,jA]
    exact congrArg some hI2
  rw [hF]
  congr 1
  have hs':(decide (1≤s.size)&&decide (s.size≤8))=true:=by simp [hs]
  unfold nameB
  rw [hs',jA,jm,jf,qal,qal]
  simp only [chB,Bool.or_eq_true,jf,decide_eq_true_eq]
  constructor
  ·rintro ⟨h1,h2⟩ j hj
   rcases Nat.eq_zero_or_pos j with rfl|hp
   ·exact .inl h2
   ·exact (h1 j hj).imp id (fun h=>⟨h,hp⟩)
  ·intro h1
   refine ⟨fun j hj=>(h1 j hj).imp id (fun h=>h.1),?_⟩
   rcases h1 0 (by omega) with h2|h2
   ·exact h2
   ·omega
def strAt (xs:List ByteArray) (j:Nat):ByteArray:=xs.getD j ByteArray.empty
theorem qoM {xs:List ByteArray} {j:Nat} (h:j<xs.length):strAt xs j=xs[j]:=by simp [strAt,h]
theorem qqV {xs:List ByteArray} {j:Nat} (h:j<xs.length):idx xs (j:Int)=some (strAt xs j):=by rw [qgR h,qoM h]
def neB (xs:List ByteArray) (j i:Nat):Bool:=!decide (strAt xs i=strAt xs j)
def namesB (xs:List ByteArray):Bool:=allN (fun j=>nameB (strAt xs j)&&allN (neB xs j) j) xs.length
theorem qnl {xs:List ByteArray} (h:okL okS xs):Ev (fun n=>qgD n xs) (namesB xs):=by
 have hl:=h.len
 have hL2:∀ j,j<xs.length→Ev (fun n=>qev xs (j:Int) n 0) (bif allN (neB xs j) j then .nxt (j:Int) else .ret false):=by
  intro j hj
  refine qeJ ?_ (fun i hi X hX=>Ev.succ ?_)
  ·exact Ev.succ (by simp only [qev,ql (je _),cond_false];exact .done)
  ·simp only [qev,qk hi,cond_true,qqV (show i<xs.length by omega),qqV hj,jd,qhH,wS i]
   unfold neB
   cases decide (strAt xs i=strAt xs j)
   ·exact hX
   ·exact .done
 have hL1:Ev (fun n=>qeA xs n 0) (bif namesB xs then .nxt (xs.length:Int) else .ret false):=by
  refine qeJ ?_ (fun j hj X hX=>Ev.succ ?_)
  ·exact Ev.succ (by simp only [qeA,ql (je _),cond_false];exact .done)
  ·simp only [qeA,qk hj,cond_true,qqV hj,jd,wS j]
   refine Ev.bind (qmy (by rw [qoM hj];exact h.at hj)) ?_
   cases nameB (strAt xs j)
   ·exact .done
   ·refine Ev.ff rfl (Ev.bind (hL2 j hj) ?_)
    cases allN (neB xs j) j
    ·exact .done
    ·exact hX
 unfold qgD
 refine Ev.bind hL1 ?_
 cases namesB xs<;>exact .done
theorem qt8 {xs:List ByteArray} {v:ByteArray} (hl:xs.length≤1048576):Ev (fun n=>qfA n xs v) (ixL (fun x=>decide (v=x)) xs) :=
 qfX (fin:=(xs.length:Int)) (Lf:=qbV xs v) (pf:=fun _ x=>some (decide (v=x))) (fun _ _=>.done)
  (fun n=>by simp only [qbV,ql (je _),cond_false])
  (fun n j x hx=>by
   have hj:=(List.getElem?_eq_some_iff.1 hx).1
   simp only [qbV,qk hj,cond_true,qan hx,jd,qhH,wS j])
  (fun n=>by unfold qfA;congr 1;funext o;cases o<;>rfl)
theorem qrH {xs:List ByteArray} {v:ByteArray} (hl:xs.length≤1048576):Ev (fun n=>qeb n xs v) (xs.any fun x=>decide (v=x)):=by
 unfold qeb
 exact Ev.bind (qt8 hl) (Ev.now (by rw [qnr]))
theorem qjT {xs:List ByteArray} (h:okL okS xs):Ev (fun n=>qej n xs) (namesB xs):=by
 have hl:=h.len
 have hL1:Ev (fun n=>qen xs n 0) (bif namesB xs then .nxt (xs.length:Int) else .ret false):=by
  refine qeJ ?_ (fun j hj X hX=>Ev.succ ?_)
  ·exact Ev.succ (by simp only [qen,ql (je _),cond_false];exact .done)
  ·have hs:subS xs 0 (j:Int)=some (xs.take j):=by
    unfold subS
    rw [if_pos ⟨by omega,by omega,by omega⟩]
    simp
   simp only [qen,qk hj,cond_true,qqV hj,jd,hs,qpG (show okS (strAt xs j) by rw [qoM hj];exact h.at hj),wS j]
   cases nameB (strAt xs j)
   ·exact .done
   ·refine Ev.ff rfl (Ev.bind (qrH (by simp;omega)) ?_)
    have:((xs.take j).any fun x=>decide (strAt xs j=x)) = !allN (neB xs j) j:=by
     rw [qt3 (d:=ByteArray.empty)]
     congr 1
     rw [jI,Nat.min_eq_left (by omega)]
     refine qib (fun i hi=>?_)
     unfold neB strAt
     congr 1
     have:(xs.take j).getD i ByteArray.empty=xs.getD i ByteArray.empty:=by simp [jw,hi]
     rw [this]
     exact decide_eq_decide.2 eq_comm
    rw [this]
    cases allN (neB xs j) j
    ·exact .done
    ·exact hX
 unfold qej
 refine Ev.bind hL1 ?_
 cases namesB xs<;>exact .done
end Go.Fw


namespace Go.Fw
open Go
set_option maxRecDepth 100000
theorem qsj {n:Nat} {x lo hi:Int}:qhm n x lo hi=some (!inI x lo hi):=by simp only [qhm,qdn,jd]
theorem qed {xs:List Int} {lo hi:Int} (hl:xs.length≤1048576):Ev (fun n=>qbM n xs lo hi) (xs.all fun x=>inI x lo hi):=by
 have h1:Ev (fun n=>qa2 n xs lo hi) (ixL (fun x=>!inI x lo hi) xs) :=
  qfX (fin:=(xs.length:Int)) (Lf:=qaf xs lo hi) (pf:=fun _ x=>some (!inI x lo hi)) (fun _ _=>.done)
   (fun n=>by simp only [qaf,ql (je _),cond_false])
   (fun n j x hx=>by
    have hj:=(List.getElem?_eq_some_iff.1 hx).1
    simp only [qaf,qk hj,cond_true,qan hx,jd,qsj,wS j])
   (fun n=>by unfold qa2;congr 1;funext o;cases o<;>rfl)
 unfold qbM qbx
 refine Ev.bind (Ev.bind h1 (Ev.now rfl)) (Ev.now ?_)
 rw [qnr,qoJ]
def stepB (xs:List Int) (j:Nat):Bool:=decide (j=0) || decide (at0 xs (j-1)<at0 xs j)
def incB (xs:List Int):Bool:=allN (stepB xs) xs.length
theorem qm0 {xs:List Int} (hl:xs.length≤1048576):Ev (fun n=>qfl n xs) (incB xs):=by
 have hL:Ev (fun n=>qbv xs n 1) (bif incB xs then .nxt (max 1 xs.length:Int) else .ret false):=by
  by_cases h0:xs.length=0
  ·have hb:incB xs=true:=by unfold incB;rw [h0];rfl
   rw [hb]
   refine Ev.succ ?_
   have:decide ((1:Int)<(xs.length:Int))=false:=by rw [h0];decide
   simp only [qbv,this,cond_false]
   exact Ev.now (by rw [h0];rfl)
  ·have:=qv3 (Lf:=qbv xs) (len:=xs.length) (i0:=1) (f:=stepB xs) (bad:=false) (fin:=.nxt (max 1 xs.length:Int)) (by omega)
    (Ev.succ (by
     simp only [qbv,ql (je _),cond_false]
     exact Ev.now (by congr 2;omega)))
    (fun j h1 hj X hX=>Ev.succ (by
     simp only [qbv,qk hj,cond_true,wS j,show (j:Int)-1=((j-1:Nat):Int) by omega,qN (show -9223372036854775808≤((j-1:Nat):Int) by omega) (by omega),qah (show j-1<xs.length by omega),qah hj,jd]
     unfold stepB
     by_cases hc:at0 xs (j-1)<at0 xs j
     ·have e1:decide (at0 xs (j-1) ≥ at0 xs j)=false:=by simp;omega
      rw [e1];simp only [hc,decide_true,Bool.or_true,cond_true,cond_false];exact hX
     ·have e1:decide (at0 xs (j-1) ≥ at0 xs j)=true:=by simp;omega
      have e2:decide (j=0)=false:=by simp;omega
      rw [e1,e2];simp only [hc,decide_false,Bool.or_self,cond_true,cond_false];exact .done))
   have e:allN (fun j=>stepB xs (1+j)) (xs.length-1)=incB xs:=by
    unfold incB
    rw [jm,qal,qal]
    constructor
    ·intro h j hj
     cases j with
     | zero=>rfl
     | succ j=>have:=h j (by omega);rwa [Nat.add_comm] at this
    ·intro h j hj
     exact h (1+j) (by omega)
   rw [e] at this
   exact this
 unfold qfl
 refine Ev.bind hL ?_
 cases incB xs<;>exact .done
def lenB {α:Type} (xs:List α) (lo hi:Nat):Bool:=decide (lo≤xs.length)&&decide (xs.length≤hi)
theorem qta {α:Type} {xs:List α} {lo hi:Nat}:inI (xs.length:Int) (lo:Int) (hi:Int)=lenB xs lo hi:=by
 unfold inI lenB;rw [jm];simp
def axisB (xs:List Int):Bool:=lenB xs 1 4&&((xs.all fun x=>inI x 0 100000)&&incB xs)
theorem qsB {xs:List Int} (hl:xs.length≤1048576):Ev (fun n=>qjE n xs) (axisB xs):=by
 simp only [qjE,qbs,jd,qdn,show inI (xs.length:Int) 1 4=lenB xs 1 4 from qta (lo:=1) (hi:=4)]
 unfold axisB
 cases lenB xs 1 4
 ·exact .done
 ·refine Ev.tt rfl (Ev.bind (qed hl) ?_)
  cases (xs.all fun x=>inI x 0 100000)
  ·exact .done
  ·exact Ev.tt rfl (Ev.bind (qm0 hl) .done)
theorem qrb {xs:List Int} (hl:xs.length≤1048576):Ev (fun n=>qiZ n xs) (axisB xs):=by
 have hL:Ev (fun n=>qdU xs n 0) (bif allN (fun j=>inI (at0 xs j) 0 100000&&stepB xs j) xs.length then .nxt (xs.length:Int) else .ret false):=by
  refine qeJ ?_ (fun j hj X hX=>Ev.succ ?_)
  ·exact Ev.succ (by simp only [qdU,ql (je _),cond_false];exact .done)
  ·simp only [qdU,qk hj,cond_true,qah hj,jd,qcS,wS j]
   cases inI (at0 xs j) 0 100000
   ·exact .done
   ·simp only [Jb,cond_false,jA]
    unfold stepB
    by_cases h0:j=0
    ·subst h0
     exact Ev.ff (by decide) hX
    ·simp only [show (j:Int)-1=((j-1:Nat):Int) by omega,qN (show -9223372036854775808≤((j-1:Nat):Int) by omega) (by omega),qah (show j-1<xs.length by omega),jd]
     have e2:decide (j=0)=false:=by simp;omega
     have e3:decide ((j:Int) > 0)=true:=by simp;omega
     rw [e2,e3]
     simp only [cond_true,Bool.false_or]
     by_cases hc:at0 xs (j-1)<at0 xs j
     ·have e1:decide (at0 xs (j-1) ≥ at0 xs j)=false:=by simp;omega
      rw [e1];simp only [hc,decide_true,cond_true,cond_false];exact hX
     ·have e1:decide (at0 xs (j-1) ≥ at0 xs j)=true:=by simp;omega
      rw [e1];simp only [hc,decide_false,cond_true,cond_false];exact .done
 have e:axisB xs=(allN (fun j=>inI (at0 xs j) 0 100000&&stepB xs j) xs.length&&lenB xs 1 4):=by
  unfold axisB incB
  rw [ql4,qha (d:=0),Bool.and_comm]
  rfl
 rw [e]
 unfold qiZ
 refine Ev.bind hL ?_
 cases allN (fun j=>inI (at0 xs j) 0 100000&&stepB xs j) xs.length
 ·exact .done
 ·simp only [cond_true,qnu,qoY,jA]
  exact Ev.now (by congr 1;unfold lenB;rw [jm];simp;omega)
def tableB (t:qr):Bool:=axisB t.Bm&&(axisB t.Bj&&(decide (t.Bh.length=t.Bm.length*t.Bj.length)&&(t.Bh.all fun x=>inI x (-1000000) 1000000)))
theorem qvZ {a b:Nat} (ha:a≤1048576) (hb:b≤1048576):W64 ((a:Int)*(b:Int))=((a*b:Nat):Int):=by
 have h:a*b≤1048576*1048576:=Nat.mul_le_mul ha hb
 have e:(a:Int)*(b:Int)=((a*b:Nat):Int):=by simp
 rw [e]
 exact qN (by omega) (by omega)
theorem qvt {t:qr} (h:qi3 t):Ev (fun n=>qkw n t) (tableB t):=by
 unfold qkw tableB
 refine Ev.bind (qsB h.Bm.len) ?_
 cases axisB t.Bm
 ·exact .done
 ·refine Ev.tt rfl (Ev.bind (qsB h.Bj.len) ?_)
  cases axisB t.Bj
  ·exact .done
  ·rw [qvZ h.Bm.len h.Bj.len]
   have e:(((t.Bh.length:Nat):Int)==((t.Bm.length*t.Bj.length:Nat):Int))=decide (t.Bh.length=t.Bm.length*t.Bj.length):=by rw [jm];simp;omega
   rw [e]
   cases decide (t.Bh.length=t.Bm.length*t.Bj.length)
   ·exact .done
   ·exact Ev.tt rfl (Ev.tt rfl (Ev.bind (qed h.Bh.len) .done))
theorem qtL {t:qr} (h:qi3 t):Ev (fun n=>qku n t) (tableB t):=by
 have hl:=h.Bh.len
 have hL:Ev (fun n=>qe3 t n 0) (bif (t.Bh.all fun x=>inI x (-1000000) 1000000) then .nxt (t.Bh.length:Int) else .ret false) :=
  qoH (fun n=>by simp only [qe3,ql (je _),cond_false]) (fun j hj X hX=>by
   simp only [qe3,qk hj,cond_true,qgR hj,jd,qcS,wS j]
   cases inI t.Bh[j] (-1000000) 1000000
   ·exact .done
   ·exact hX)
 unfold qku tableB
 refine Ev.bind (b:=!(axisB t.Bm&&(axisB t.Bj&&decide (t.Bh.length=t.Bm.length*t.Bj.length)))) ?_ ?_
 ·refine Ev.bind (qrb h.Bm.len) ?_
  cases axisB t.Bm
  ·exact .done
  ·refine Ev.ff rfl (Ev.bind (qrb h.Bj.len) ?_)
   cases axisB t.Bj
   ·exact .done
   ·refine Ev.ff rfl (Ev.now ?_)
    rw [qvZ h.Bm.len h.Bj.len]
    congr 1
    rw [jm];simp;omega
 ·cases axisB t.Bm
  ·exact .done
  ·cases axisB t.Bj
   ·exact .done
   ·cases decide (t.Bh.length=t.Bm.length*t.Bj.length)
    ·exact .done
    ·refine Ev.ff rfl (Ev.bind hL ?_)
     cases (t.Bh.all fun x=>inI x (-1000000) 1000000)<;>exact .done
end Go.Fw


namespace Go.Fw
open Go
set_option maxRecDepth 100000
instance:Inhabited qaj:=⟨⟨ByteArray.empty,0,0,false⟩⟩
instance:Inhabited qr:=⟨⟨[],[],[]⟩⟩
instance:Inhabited qG:=⟨⟨0,0,0,0,[],[]⟩⟩
instance:Inhabited qw:=⟨⟨ByteArray.empty,0,[],[],[],0,0⟩⟩
instance:Inhabited qi:=⟨⟨ByteArray.empty,0,[]⟩⟩
instance:Inhabited qK:=⟨⟨ByteArray.empty,0,0⟩⟩
instance:Inhabited qD:=⟨⟨[],[],[],[]⟩⟩
theorem lastE {j m:Nat} (h:j<m) (hm:m≤1048576):((j:Int)==W64 ((m:Int)-1))=decide (j+1=m):=by
 rcases qyH h with h|h
 ·exact h
 ·omega
theorem qkF {α:Type} [Inhabited α] {xs:List α} {g:α→ByteArray} {j:Nat} (h:j<xs.length):strAt (xs.map g) j=g (gt xs j):=by
 rw [qoM (by simpa using h),qfx h];simp
theorem qnR {α:Type} {xs:List α} {g:α→ByteArray} {ok:α→Prop} (h:okL ok xs) (hg:∀ x,ok x→okS (g x)):okL okS (xs.map g) :=
 ⟨by rw [jz];exact h.1,fun y hy=>by
  obtain ⟨x,hx,rfl⟩:=List.mem_map.1 hy
  exact hg x (h.2 x hx)⟩
theorem qmj {α β:Type} {xs:List α} {g:α→β} {j:Nat} (h:j<xs.length) (hl:xs.length≤1048576) {y:β}:appS ((xs.take j).map g) [y]=some ((xs.take j).map g++[y]) :=
 qdb (by simp;omega)
def pinB (ps:List qaj) (j:Nat):Bool :=
 bif decide (j+1=ps.length) then ((gt ps j).Bv==2)&&(((gt ps j).Bs==0)&&!(gt ps j).Br) else ((gt ps j).Bv==1)&&inI (gt ps j).Bs 0 500
def pinsB (ps:List qaj):Bool:=allN (pinB ps) ps.length&&(lenB ps 2 5&&namesB (ps.map qaj.Bb))
def clkN (ps:List qaj) (j:Nat):Nat:=cntP (fun i=>(gt ps i).Br) j
theorem qvM {ps:List qaj} (h:okL qnK ps):Ev (fun n=>qkl n ps) (pinsB ps):=by
 have hl:=h.len
 have hL:Ev (fun n=>qc1 ps n ([]:List ByteArray) 0) (bif allN (pinB ps) ps.length then .nxt (ps.map qaj.Bb,(ps.length:Int)) else .ret false):=by
  refine loopN (Lf:=qc1 ps) (S:=fun j=>(ps.take j).map qaj.Bb) (pinB ps) (fun n=>?_) (fun j hj hp X hX=>?_)
  ·simp only [qc1,ql (je _),cond_false,jD]
  ·simp only [qc1,qk hj,cond_true,qB hj,jd,qmj hj hl,qgb (g:=qaj.Bb) hj,lastE hj hl,bne,qdf,qdn,wS j]
   generalize hc:pinB ps j=c at hX ⊢
   unfold pinB at hc
   cases hd:decide (j+1=ps.length)
   ·rw [hd] at hc
    simp only [cond_false] at hc ⊢
    subst hc
    exact Ev.okP (fun h1=>Ev.okP1 (fun h2=>hX (by rw [h1,h2];rfl)))
   ·rw [hd] at hc
    simp only [cond_true] at hc ⊢
    subst hc
    refine Ev.okP (fun h1=>Ev.okP (fun h2=>Ev.chkP1 (fun h3=>hX (by rw [h1,h2,h3];rfl))))
 unfold qkl pinsB
 refine Ev.bind hL ?_
 cases allN (pinB ps) ps.length
 ·exact .done
 ·simp only [cond_true,qcr,qdn,jd,show inI (ps.length:Int) 2 5=lenB ps 2 5 from qta (lo:=2) (hi:=5),jA]
  exact Ev.andP (fun _=>Ev.last (qjT (qnR h (fun x hx=>hx.Bb))))
def pinS (ps:List qaj) (j:Nat):Bool:=allN (neB (ps.map qaj.Bb) j) j&&((nameB (gt ps j).Bb&&inI (gt ps j).Bs 0 500)&&(bif decide (j+1=ps.length) then ((gt ps j).Bv==2)&&(((gt ps j).Bs==0)&&!(gt ps j).Br) else ((gt ps j).Bv==1)))
theorem qyX {ps:List qaj}:(lenB ps 2 5&&allN (pinS ps) ps.length)=pinsB ps:=by
 have e:namesB (ps.map qaj.Bb)=allN (fun j=>nameB (gt ps j).Bb&&allN (neB (ps.map qaj.Bb) j) j) ps.length:=by
  unfold namesB
  rw [jz]
  exact qib (fun j hj=>by rw [qkF hj])
 unfold pinsB
 rw [e,←Bool.and_assoc,Bool.and_comm (allN (pinB ps) ps.length),Bool.and_assoc,←ql4]
 congr 1
 refine qib (fun j hj=>?_)
 unfold pinS pinB
 cases hd:decide (j+1=ps.length)
 ·simp only [cond_false]
  cases allN (neB (ps.map qaj.Bb) j) j<;>cases nameB (gt ps j).Bb<;>cases inI (gt ps j).Bs 0 500<;>cases ((gt ps j).Bv==1)<;>rfl
 ·simp only [cond_true]
  cases hcap:((gt ps j).Bs==0)
  ·simp
  ·have:inI (gt ps j).Bs 0 500=true:=by rw [beq_iff_eq] at hcap;rw [hcap];rfl
   rw [this]
   cases allN (neB (ps.map qaj.Bb) j) j<;>cases nameB (gt ps j).Bb<;>cases ((gt ps j).Bv==2)<;>cases (gt ps j).Br<;>rfl
theorem qvm {c:qw} (h:okL qnK c.Bd):Ev (fun n=>qkz n c) (bif pinsB c.Bd then (((clkN c.Bd c.Bd.length:Nat):Int),true) else (0,false)):=by
 have hl:=h.len
 have hL2:∀ j,j<c.Bd.length→Ev (fun n=>qe2 c (j:Int) (gt c.Bd j) n 0) (bif allN (neB (c.Bd.map qaj.Bb) j) j then .nxt (j:Int) else .ret (0,false)):=by
  intro j hj
  refine qeJ ?_ (fun i hi X hX=>Ev.succ ?_)
  ·exact Ev.succ (by simp only [qe2,ql (je _),cond_false];exact .done)
  ·simp only [qe2,qk hi,cond_true,qB (show i<c.Bd.length by omega),jd,qhH,wS i]
   unfold neB
   rw [qkF (g:=qaj.Bb) (show i<c.Bd.length by omega),qkF (g:=qaj.Bb) hj]
   exact Ev.chkP1 (fun _=>hX)
 have hL1:Ev (fun n=>qc4 c n 0 0) (bif allN (pinS c.Bd) c.Bd.length then .nxt (((clkN c.Bd c.Bd.length:Nat):Int),(c.Bd.length:Int)) else .ret (0,false)):=by
  refine loopN (Lf:=qc4 c) (S:=fun j=>((clkN c.Bd j:Nat):Int)) (pinS c.Bd) (fun n=>?_) (fun j hj hp X hX=>?_)
  ·simp only [qc4,ql (je _),cond_false]
  ·have hn:clkN c.Bd j≤j:=qgf
   have ejl:((j:Int)==W64 ((c.Bd.length:Int)-1))=decide (j+1=c.Bd.length):=lastE hj hl
   have elt:decide ((j:Int)<W64 ((c.Bd.length:Int)-1)) = !decide (j+1=c.Bd.length):=by
    rw [qN (by omega) (by omega),jm];simp;omega
   simp only [qc4,qk hj,cond_true,qB hj,jd,wS j,qde (show clkN c.Bd j<9223372036854775807 by omega),ejl,elt,qcS]
   unfold pinS
   refine Ev.bind (hL2 j hj) ?_
   cases ha:allN (neB (c.Bd.map qaj.Bb) j) j
   ·exact .done
   ·simp only [cond_true,jA]
    refine Ev.chkT ?_ (fun h1=>?_)
    ·exact Ev.or (qmy (qnx h hj).Bb) (fun _=>.done)
    ·refine Ev.chkT1 ?_ (fun h2=>?_)
     ·cases decide (j+1=c.Bd.length)
      ·exact .done
      ·simp only [cond_true,Jb,cond_false,bne,qdf]
       cases ((gt c.Bd j).Bv==2)<;>cases ((gt c.Bd j).Bs==0)<;>cases (gt c.Bd j).Br<;>exact .done
     ·have hX:=hX (by unfold pinS;rw [ha,h1,h2];rfl)
      have hck:clkN c.Bd (j+1)=clkN c.Bd j+(bif (gt c.Bd j).Br then 1 else 0):=rfl
      rw [hck] at hX
      cases hc:(gt c.Bd j).Br
      ·rw [hc] at hX;exact Ev.ff rfl hX
      ·rw [hc] at hX;exact Ev.tt rfl hX
 rw [←qyX]
 unfold qkz
 refine Ev.guard ?_ (fun h1=>?_)
 ·unfold lenB
  have e1:decide ((c.Bd.length:Int)<2) = !decide (2≤c.Bd.length):=by rw [jm];simp;omega
  have e2:decide ((c.Bd.length:Int) > 5) = !decide (c.Bd.length≤5):=by rw [jm];simp;omega
  rw [e1,e2]
  cases decide (2≤c.Bd.length)<;>cases decide (c.Bd.length≤5)<;>exact .done
 ·refine Ev.bind hL1 ?_
  cases allN (pinS c.Bd) c.Bd.length<;>exact .done
def mnL (xs:List Int):Int:=(xs.drop 1).foldl (fun m y=>if y<m then y else m) (at0 xs 0)
def mxL (xs:List Int):Int:=(xs.drop 1).foldl (fun m y=>if y > m then y else m) (at0 xs 0)
theorem qq6 {t:qr} (h:tableB t=true):1≤t.Bh.length:=by
 unfold tableB axisB lenB at h
 simp only [jf,decide_eq_true_eq] at h
 obtain ⟨⟨⟨h1,_⟩,_⟩,⟨⟨h2,_⟩,_⟩,h3,_⟩:=h
 rw [h3]
 exact Nat.mul_pos h1 h2
theorem qy6 {xs:List Int} (h1:1≤xs.length) (hl:xs.length≤1048576):Ev (fun n=>qhs n xs) (mnL xs):=by
 have hL:=(qpO (Lf:=fun n t j=>qcV xs n t j) (xs:=xs) (step:=fun (m y:Int)=>if y<m then y else m) (fin:=fun t=>(t,(xs.length:Int))) 1 (at0 xs 0) (fun _ _=>True) h1 trivial (fun _ _ _ _=>trivial)
  (fun n t=>by simp only [qcV,ql (je _),cond_false])
  (fun j t hj _ X hX=>by simpa only [qcV,qk hj,cond_true,qgR hj,jd,wS j] using hX)).1
 unfold qhs
 rw [show decide ((xs.length:Int)<1)=false by simp;omega,show idx xs (0:Int)=some (at0 xs 0) from qah (j:=0) (by omega)]
 simp only [cond_false,jd]
 exact Ev.bind hL .done
theorem qve {t:qr} (h:qi3 t):Ev (fun n=>qhi n t) (bif tableB t then (⟨mnL t.Bh,mxL t.Bh⟩,0) else (⟨0,0⟩,1)):=by
 unfold qhi
 refine Ev.chk1 (qtL h) (fun hb=>?_)
 have h1:=qq6 hb
 have hl:=h.Bh.len
 have hL:=(qpO (Lf:=fun n (t':Int × Int) j=>qcZ t n t'.1 t'.2 j) (xs:=t.Bh) (step:=fun (m:Int × Int) y=>(if y<m.1 then y else m.1,if y > m.2 then y else m.2)) (fin:=fun t'=>(t'.1,t'.2,(t.Bh.length:Int))) 1 (at0 t.Bh 0,at0 t.Bh 0) (fun _ _=>True) h1 trivial (fun _ _ _ _=>trivial)
  (fun n t=>by simp only [qcZ,ql (je _),cond_false])
  (fun j t hj _ X hX=>by simpa only [qcZ,qk hj,cond_true,qgR hj,jd,wS j] using hX)).1
 have hf:∀ (ys:List Int) (a b:Int),ys.foldl (fun (m:Int × Int) y=>(if y<m.1 then y else m.1,if y > m.2 then y else m.2)) (a,b)=(ys.foldl (fun m y=>if y<m then y else m) a,ys.foldl (fun m y=>if y > m then y else m) b):=by
  intro ys
  induction ys with
  | nil=>intro a b;rfl
  | cons y ys ih=>intro a b;simp only [List.foldl_cons,ih]
 rw [hf] at hL
 rw [show idx t.Bh (0:Int)=some (at0 t.Bh 0) from qah (j:=0) (by omega)]
 simp only [jd]
 exact Ev.bind hL .done
def tabB (pos:Bool) (t:qr):Bool:=tableB t&&(!pos || decide (0≤mnL t.Bh))
def tablesB (ts:List qr) (pos:Bool):Bool:=decide (ts.length=2)&&ts.all (tabB pos)
theorem qmI {ts:List qr} {pos:Bool} (h:okL qi3 ts):Ev (fun n=>qfL n ts pos) (tablesB ts pos):=by
 have hl:=h.len
 have h1:Ev (fun n=>qaG n ts pos) (ixL (fun x=>!tabB pos x) ts) :=
  qfX (fin:=(ts.length:Int)) (Lf:=qR ts pos) (pf:=fun n x=>qhl n x pos) (fun x hx=>by
    unfold qhl tabB
    refine Ev.or (qvt (h.2 x hx)) (fun hb=>?_)
    cases pos
    ·exact .done
    ·refine Ev.tt rfl (Ev.bind (qy6 (qq6 hb) (h.2 x hx).Bh.len) (Ev.now ?_))
     congr 1
     rw [jm];simp)
   (fun n=>by simp only [qR,ql (je _),cond_false])
   (fun n j x hx=>by
    have hj:=(List.getElem?_eq_some_iff.1 hx).1
    simp only [qR,qk hj,cond_true,qan hx,jd,wS j])
   (fun n=>by unfold qaG;congr 1;funext o;cases o<;>rfl)
 unfold qfL qa9 tablesB
 rw [show ((ts.length:Int)==2)=decide (ts.length=2) by rw [jm];simp;omega]
 refine Ev.andP (fun _=>Ev.bind (Ev.bind h1 (Ev.now rfl)) (Ev.now ?_))
 rw [qnr,qoJ]
theorem qiH {ts:List qr} {pos:Bool} (h:okL qi3 ts):Ev (fun n=>qdz n ts pos) (tablesB ts pos):=by
 unfold qdz tablesB
 rw [show ((ts.length:Int) != 2) = !decide (ts.length=2) by rw [jm];simp;omega]
 simp only [qdf]
 refine Ev.andP (fun h2=>?_)
 have h2:ts.length=2:=by simpa using h2
 have hL:Ev (fun n=>qcI ts pos n 0) (bif allN (fun j=>tabB pos (gt ts j)) ts.length then .nxt (2:Int) else .ret false):=by
  refine qeJ (len:=ts.length) ?_ (fun j hj X hX=>Ev.succ ?_)
  ·rw [h2];exact Ev.succ (by simp only [qcI];exact .done)
  ·simp only [qcI,show decide ((j:Int)<2)=true by simp;omega,cond_true,qB hj,jd,wS j]
   refine Ev.bind (qve (qnx h hj)) ?_
   unfold tabB
   cases tableB (gt ts j)
   ·exact .done
   ·simp only [cond_true,jA]
    refine Ev.ff rfl ?_
    cases pos
    ·exact hX
    ·refine Ev.tt rfl ?_
     rw [show decide (mnL (gt ts j).Bh<0) = !decide (0≤mnL (gt ts j).Bh) by rw [jm];simp]
     simp only [qdf]
     exact Ev.okP1 (fun _=>hX)
 rw [qi2]
 refine Ev.bind hL ?_
 cases allN (fun j=>tabB pos (gt ts j)) ts.length<;>exact .done
end Go.Fw


namespace Go.Fw
open Go
set_option maxRecDepth 100000
theorem qdY {α:Type} [Inhabited α] {xs:List α} {x:Int} (h0:0≤x) (h1:x<xs.length):idx xs x=some (gt xs x.toNat):=by
  have:=qB (xs:=xs) (j:=x.toNat) (by omega)
  rwa [←qeD h0] at this
theorem qsp {q:Nat→Bool} {m n:Nat} (h:m≤n):cntP q m≤cntP q n:=by
  induction n with
  | zero =>
    obtain rfl:m=0:=by omega
    exact je _
  | succ n ih =>
    rcases Nat.lt_or_eq_of_le h with h|rfl
    · exact Nat.le_trans (ih (by omega)) (Nat.le_add_right _ _)
    · exact je _
theorem qnW {m k:Nat}:decide ((m:Int)≤(k:Int))=decide (m≤k):=by rw [jm];simp
theorem quu {q:Nat→Bool} {n i j:Nat} (hi:i<j) (hj:j<n) (h1:q i=true) (h2:q j=true):2≤cntP q n:=by
  have e1:cntP q (i+1)=cntP q i+1:=by rw [cntP,h1];rfl
  have e2:cntP q (j+1)=cntP q j+1:=by rw [cntP,h2];rfl
  have m1:=qsp (q:=q) (show i+1≤j by omega)
  have m2:=qsp (q:=q) (show j+1≤n by omega)
  omega
theorem quv {q:Nat→Bool} {n i j:Nat} (hn:cntP q n≤1) (hi:i<n) (hj:j<n) (h1:q i=true) (h2:q j=true):i=j:=by
  rcases Nat.lt_trichotomy i j with h|h|h
  · have:=quu h hj h1 h2;omega
  · exact h
  · have:=quu h hi h2 h1;omega
def clkIx (ps:List qaj):Int:=ixL (fun p=>p.Br) ps
def clkAt (ps:List qaj) (x:Int):Bool:=(gt ps x.toNat).Br
theorem qxm {c:qw} (hl:c.Bd.length≤1048576):Ev (fun n=>qh5 n c) (clkIx c.Bd):=by
  unfold qh5
  refine Ev.bind (b:=clkIx c.Bd) ?_ .done
  exact qfX (fin:=(c.Bd.length:Int)) (Lf:=qW c.Bd) (pf:=fun n x=>qiE n x) (fun _ _=>.done)
    (fun n=>by simp only [qW,ql (je _),cond_false])
    (fun n j x hx=>by
      have hj:=(List.getElem?_eq_some_iff.1 hx).1
      simp only [qW,qk hj,cond_true,qan hx,jd,wS j])
    (fun n=>by unfold qbt;congr 1;funext o;cases o<;>rfl)
def arcI (ps:List qaj) (a:qG):Bool :=
  bif (a.Bf==4) || (a.Bf==5) then
    (a.Bp==0)&&(((a.Bc.length:Int)==0)&&(tablesB a.Bn false&&((a.Bk==clkIx ps)&&(decide (a.Bk ≥ 0)&&(inI a.To 0 (ps.length-2)&&!(a.To==a.Bk))))))
  else
    (tablesB a.Bn true&&(tablesB a.Bc true&&((a.To==(ps.length:Int)-1)&&inI a.Bk 0 (ps.length-2)))) &&
      (bif a.Bf==1 then !clkAt ps a.Bk&&inI a.Bp 1 3 else (bif (a.Bf==2) || (a.Bf==3) then clkAt ps a.Bk&&(a.Bp==0) else false))
def arcS (ps:List qaj) (a:qG):Bool :=
  (inI a.Bk 0 (ps.length-2)&&inI a.To 0 (ps.length-1)) &&
    (bif a.Bf==1 then !clkAt ps a.Bk&&((a.To==(ps.length:Int)-1)&&(inI a.Bp 1 3&&(tablesB a.Bn true&&tablesB a.Bc true)))
     else (bif (a.Bf==2) || (a.Bf==3) then clkAt ps a.Bk&&((a.To==(ps.length:Int)-1)&&((a.Bp==0)&&(tablesB a.Bn true&&tablesB a.Bc true)))
     else (bif (a.Bf==4) || (a.Bf==5) then clkAt ps a.Bk&&(decide (a.To<(ps.length:Int)-1)&&(!clkAt ps a.To&&((a.Bp==0)&&(tablesB a.Bn false&&((a.Bc.length:Int)==0))))) else false)))
theorem qqe {c d:Bool}:(bif c then some c else some d)=some (c || d):=by cases c<;>rfl
theorem quA {c d:Bool}:(bif c then some true else some d)=some (c || d):=by cases c<;>rfl
theorem qvK {n:Nat} {k:Int}:qkk n k=some ((k==4) || (k==5)):=by simp only [qkk,quA]
theorem qxq {c:qw} {a:qG} (h:okL qnK c.Bd) (ha:qor a) (hm:2≤c.Bd.length):Ev (fun n=>qh7 n c a) (arcI c.Bd a):=by
  have hl:=h.len
  have e1:W64 ((c.Bd.length:Int)-1)=(c.Bd.length:Int)-1:=qfi (by omega)
  have e2:W64 ((c.Bd.length:Int)-1-1)=(c.Bd.length:Int)-2:=by rw [qN (by omega) (by omega)];omega
  simp only [qh7,qvK,jd,qgM,qew,qcr,e1,e2,qdn,qqe,bne]
  unfold arcI
  refine Ev.iff (fun _=>Ev.last ?_) (fun _=>Ev.guardB ?_ (fun hb=>?_))
  · exact Ev.andP fun _=>Ev.andP fun _=>Ev.and (qmI ha.Bn) fun _=>Ev.bind (qxm hl) (Ev.andP fun _=>Ev.andP fun _=>Ev.andP fun _=>.done)
  · refine Ev.or (qmI ha.Bn) fun _=>Ev.or (qmI ha.Bc) fun _=>?_
    simp only [qdf]
    exact Ev.orBP fun _=>.done
  · have hf:0≤a.Bk∧a.Bk≤(c.Bd.length:Int)-2:=by
      simp only [jf,qbh] at hb
      exact hb.2.2.2
    simp only [qdY hf.1 (show a.Bk<(c.Bd.length:Int) by omega),jd]
    exact Ev.iff (fun _=>Ev.andP fun _=>.done) (fun _=>Ev.iff (fun _=>Ev.andP fun _=>.done) (fun _=>.done))
theorem qwh {c:qw} {a:qG} (h:okL qnK c.Bd) (ha:qor a) (hm:2≤c.Bd.length):Ev (fun n=>qlJ n c a) (arcS c.Bd a):=by
  have hl:=h.len
  have e1:W64 ((c.Bd.length:Int)-1)=(c.Bd.length:Int)-1:=qfi (by omega)
  have e2:W64 ((c.Bd.length:Int)-1-1)=(c.Bd.length:Int)-2:=by rw [qN (by omega) (by omega)];omega
  simp only [qlJ,jd,e1,e2,qcS,qqe]
  unfold arcS
  refine Ev.guardB ?_ (fun hb=>?_)
  · simp only [qdf]
    exact Ev.orBP fun _=>.done
  · have hf:(0≤a.Bk∧a.Bk≤(c.Bd.length:Int)-2)∧(0≤a.To∧a.To≤(c.Bd.length:Int)-1):=by
      simp only [jf,qbh] at hb
      exact hb
    simp only [qdY hf.1.1 (show a.Bk<(c.Bd.length:Int) by omega),qdY hf.2.1 (show a.To<(c.Bd.length:Int) by omega),jd]
    refine Ev.iff (fun _=>?_) (fun _=>Ev.iff (fun _=>?_) (fun _=>Ev.iff (fun _=>?_) (fun _=>.done)))
    · exact Ev.andP fun _=>Ev.andP fun _=>Ev.andP fun _=>Ev.and (qiH ha.Bn) fun _=>Ev.last (qiH ha.Bc)
    · exact Ev.andP fun _=>Ev.andP fun _=>Ev.andP fun _=>Ev.and (qiH ha.Bn) fun _=>Ev.last (qiH ha.Bc)
    · exact Ev.andP fun _=>Ev.andP fun _=>Ev.andP fun _=>Ev.andP fun _=>Ev.and (qiH ha.Bn) fun _=>.done
theorem qp2 {ps:List qaj} (h1:clkN ps ps.length≤1) {x:Int} (hx:0≤x):clkIx ps=x↔x<ps.length∧clkAt ps x=true:=by
  unfold clkIx ixL
  cases hf:ps.findIdx? (fun p=>p.Br) with
  | some j =>
    obtain ⟨hj,hp,_⟩:=List.findIdx?_eq_some_iff_getElem.1 hf
    have hpj:(gt ps j).Br=true:=by rw [qfx hj];exact hp
    constructor
    · intro e
      have e:(j:Int)=x:=e
      subst e
      exact ⟨by omega,by unfold clkAt;rw [jn];exact hpj⟩
    · rintro ⟨hl,hc⟩
      have:=quv h1 hj (show x.toNat<ps.length by omega) hpj hc
      show (j:Int)=x
      omega
  | none =>
    have hn:=List.findIdx?_eq_none_iff.1 hf
    constructor
    · intro e
      have e:(-1:Int)=x:=e
      omega
    · rintro ⟨hl,hc⟩
      have hxl:x.toNat<ps.length:=by omega
      unfold clkAt at hc
      rw [qfx hxl] at hc
      have:=hn _ (jp hxl)
      rw [hc] at this
      exact absurd this (by decide)
theorem qhb {ps:List qaj} (h:pinsB ps=true):(2≤ps.length∧ps.length≤5)∧clkAt ps ((ps.length:Int)-1)=false:=by
  unfold pinsB lenB at h
  simp only [jf,decide_eq_true_eq] at h
  refine ⟨h.2.1,?_⟩
  have h1:=qal.1 h.1 (ps.length-1) (by omega)
  unfold pinB at h1
  rw [show decide (ps.length-1+1=ps.length)=true by simp;omega] at h1
  simp only [cond_true,jf,jJ] at h1
  unfold clkAt
  rw [show ((ps.length:Int)-1).toNat=ps.length-1 by omega]
  exact h1.2.2
theorem qxA {ps:List qaj} {a:qG} (h:pinsB ps=true) (h1:clkN ps ps.length≤1):arcI ps a=arcS ps a:=by
  obtain ⟨⟨hm,hm5⟩,hlast⟩:=qhb h
  rw [jm]
  unfold arcI arcS
  cases h45:((a.Bf==4) || (a.Bf==5)) with
  | true =>
    have k1:(a.Bf==1)=false:=by simp at h45 ⊢;omega
    have k23:((a.Bf==2) || (a.Bf==3))=false:=by simp at h45 ⊢;omega
    rw [k1,k23]
    simp only [cond_true,cond_false,jf,qbh,decide_eq_true_eq,beq_iff_eq,jJ,beq_eq_false_iff_ne,ne_eq]
    constructor
    · rintro ⟨hs,hsl,hd,hf,hf0,ht,hne⟩
      obtain ⟨hl,hc⟩:=(qp2 h1 hf0).1 hf.symm
      have hfl:a.Bk ≠ (ps.length:Int)-1:=by intro e;rw [e,hlast] at hc;cases hc
      refine ⟨⟨⟨hf0,by omega⟩,⟨ht.1,by omega⟩⟩,hc,by omega,?_,hs,hd,hsl⟩
      cases hct:clkAt ps a.To with
      | false=>rfl
      | true =>
        have:=(qp2 h1 ht.1).2 ⟨by omega,hct⟩
        omega
    · rintro ⟨⟨hf,ht⟩,hc,hlt,hct,hs,hd,hsl⟩
      have:=(qp2 h1 hf.1).2 ⟨by omega,hc⟩
      refine ⟨hs,hsl,hd,this.symm,hf.1,⟨ht.1,by omega⟩,?_⟩
      intro e
      rw [e,hc] at hct
      cases hct
  | false =>
    simp only [cond_false,jf,qbh,beq_iff_eq]
    cases (a.Bf==1)
    · cases ((a.Bf==2) || (a.Bf==3))
      · simp
      · simp only [cond_true,cond_false,jf,beq_iff_eq]
        constructor
        · rintro ⟨⟨h1,h2,h3,h4⟩,h5,h6⟩
          exact ⟨⟨h4,by omega⟩,h5,h3,h6,h1,h2⟩
        · rintro ⟨⟨h4,h7⟩,h5,h3,h6,h1,h2⟩
          exact ⟨⟨h1,h2,h3,h4⟩,h5,h6⟩
    · simp only [cond_true,jf,qbh,jJ,beq_iff_eq]
      constructor
      · rintro ⟨⟨h1,h2,h3,h4⟩,h5,h6⟩
        exact ⟨⟨h4,by omega⟩,h5,h3,h6,h1,h2⟩
      · rintro ⟨⟨h4,h7⟩,h5,h3,h6,h1,h2⟩
        exact ⟨⟨h1,h2,h3,h4⟩,h5,h6⟩
theorem qst {ps:List qaj} {a:qG} (h:arcS ps a=true):1≤a.Bf∧a.Bf≤5:=by
  unfold arcS at h
  rw [jf] at h
  have h:=h.2
  cases h1:(a.Bf==1)
  · cases h2:((a.Bf==2) || (a.Bf==3))
    · cases h4:((a.Bf==4) || (a.Bf==5))
      · rw [h1,h2,h4] at h;cases h
      · simp at h4;omega
    · simp at h2;omega
  · simp at h1;omega
def sameArc (x y:qG):Bool:=(x.Bf==y.Bf)&&((x.Bk==y.Bk)&&(x.To==y.To))
def newArc (ar:List qG) (j:Nat):Bool:=allN (fun i=>!sameArc (gt ar i) (gt ar j)) j
theorem qvE {c:qw} (h:okL qnK c.Bd) (ha:okL qor c.Au) (hm:2≤c.Bd.length):Ev (fun n=>qgL n c) (allN (fun j=>arcI c.Bd (gt c.Au j)&&newArc c.Au j) c.Au.length&&decide (c.Au.length≤8)):=by
  have hl:=ha.len
  have h1:∀ (ar:List qG) (y:qG),ar.length≤1048576→Ev (fun n=>qax n ar y) (ar.any fun x=>sameArc x y):=by
    intro ar y hl
    unfold qax
    refine Ev.bind (b:=ixL (fun x=>sameArc x y) ar) (qfX (fin:=(ar.length:Int)) (Lf:=qQ ar y) (pf:=fun n x=>qfC n x y) (fun x _=>?_)
      (fun n=>by simp only [qQ,ql (je _),cond_false])
      (fun n j x hx=>by
        have hj:=(List.getElem?_eq_some_iff.1 hx).1
        simp only [qQ,qk hj,cond_true,qan hx,jd,wS j])
      (fun n=>by unfold qbc;congr 1;funext o;cases o<;>rfl)) (Ev.now (by rw [qnr]))
    unfold qfC sameArc
    exact Ev.andP fun _=>Ev.andP fun _=>.done
  have hL:Ev (fun n=>qcu c n 0) (bif allN (fun j=>arcI c.Bd (gt c.Au j)&&newArc c.Au j) c.Au.length then .nxt (c.Au.length:Int) else .ret false):=by
    refine qeJ ?_ (fun j hj X hX=>Ev.succ ?_)
    · exact Ev.succ (by simp only [qcu,ql (je _),cond_false];exact .done)
    · simp only [qcu,qk hj,cond_true,qB hj,jd,qwN (Nat.le_of_lt hj),wS j]
      refine Ev.chk (qxq h (qnx ha hj) hm) fun _=>Ev.chkT1 ?_ (fun _=>hX)
      refine (h1 _ _ (by simp;omega)).cast ?_
      rw [qxr (Nat.le_of_lt hj)];rfl
  unfold qgL
  refine Ev.bind hL ?_
  cases allN (fun j=>arcI c.Bd (gt c.Au j)&&newArc c.Au j) c.Au.length
  · exact .done
  · refine Ev.now ?_
    show some (decide ((c.Au.length:Int)≤((8:Nat):Int)))=some (true&&decide (c.Au.length≤8))
    rw [qnW,jA]
def hasB (ar:List qG) (k:Int):Bool:=ar.any fun a=>a.Bf==k
theorem qpD {c:qw} {k:Int} (hl:c.Au.length≤1048576):Ev (fun n=>qds n c k) (hasB c.Au k):=by
  unfold qds qbp
  exact Ev.last (Ev.bind (b:=ixL (fun x=>x.Bf==k) c.Au) (qfX (fin:=(c.Au.length:Int)) (Lf:=qab c.Au k) (pf:=fun n x=>qka n x k) (fun x _=>.done)
      (fun n=>by simp only [qab,ql (je _),cond_false])
      (fun n j x hx=>by
        have hj:=(List.getElem?_eq_some_iff.1 hx).1
        simp only [qab,qk hj,cond_true,qan hx,jd,wS j])
      (fun n=>by unfold qby;congr 1;funext o;cases o<;>rfl)) (Ev.now (by rw [qnr];rfl)))
def kindN (ar:List qG) (k:Nat) (j:Nat):Nat:=cntP (fun i=>(gt ar i).Bf==(k:Int)) j
theorem qsX {ar:List qG} {k:Nat}:decide (((kindN ar k ar.length:Nat):Int) > 0)=hasB ar k:=by
  rw [show decide (((kindN ar k ar.length:Nat):Int) > 0)=decide (0<kindN ar k ar.length) by simp]
  unfold kindN hasB
  rw [quM,qu4]
theorem qvb {ar:List qG} {k:Nat}:(((kindN ar k ar.length:Nat):Int)==0) = !hasB ar k:=by
  rw [←qsX,jm];simp
theorem qtT {c:qw} (ha:okL qor c.Au) (hk:∀ j,j<c.Au.length→1≤(gt c.Au j).Bf∧(gt c.Au j).Bf≤5):Ev (fun n=>qjz n c) (vecC (fun k=>kindN c.Au k c.Au.length) 6):=by
  have hl:=ha.len
  have hL:Ev (fun n=>qdp c n (vecC (fun _=>0) 6) 0) (vecC (fun k=>kindN c.Au k c.Au.length) 6,(c.Au.length:Int)):=by
    refine loopF (Lf:=qdp c) (S:=fun j=>vecC (fun k=>kindN c.Au k j) 6) (len:=c.Au.length) (fun n=>?_) (fun j hj X hX=>?_)
    · simp only [qdp,ql (je _),cond_false]
    · obtain ⟨k1,k5⟩:=hk j hj
      have ek:(gt c.Au j).Bf=(((gt c.Au j).Bf.toNat:Nat):Int):=qeD (by omega)
      have hc:kindN c.Au (gt c.Au j).Bf.toNat j≤j:=qgf
      simp only [qdp,qk hj,cond_true,qB hj,jd,wS j]
      rw [ek,qk9 (show (gt c.Au j).Bf.toNat<6 by omega)]
      simp only [jd]
      rw [qsW (c:=fun k=>kindN c.Au k j) (by show kindN c.Au _ j<_;omega)]
      have:vecC (fun i=>kindN c.Au i j+(bif decide ((gt c.Au j).Bf.toNat=i) then 1 else 0)) 6=vecC (fun k=>kindN c.Au k (j+1)) 6:=by
        refine qkT (fun k _=>?_)
        show _=kindN c.Au k j+(bif (gt c.Au j).Bf==(k:Int) then 1 else 0)
        congr 2
        rw [jm];simp;omega
      rw [this]
      exact hX
  unfold qjz
  rw [show mkS 6 (0:Int)=some (vecC (fun _=>0) 6) from qnO (m:=6) (by omega)]
  simp only [jd]
  exact Ev.bind hL .done
def kindB (c:qw):Bool :=
  bif c.Bf==1 then (((clkN c.Bd c.Bd.length:Nat):Int)==0)&&(((c.Bo.length:Int)==((2 ^ (c.Bd.length-1):Nat):Int))&&(c.Bo.all fun x=>inI x 0 1))
  else bif c.Bf==2 then (((clkN c.Bd c.Bd.length:Nat):Int)==1)&&(((c.Bo.length:Int)==0)&&(!hasB c.Au 1&&!(hasB c.Au 2==hasB c.Au 3)))
  else bif c.Bf==3 then (((clkN c.Bd c.Bd.length:Nat):Int)==1)&&(((c.Bo.length:Int)==0)&&(hasB c.Au 1&&(hasB c.Au 2&&!hasB c.Au 3)))
  else false
theorem qsN {c:qw} (h:kindB c=true):clkN c.Bd c.Bd.length≤1:=by
  unfold kindB at h
  cases h1:(c.Bf==1)
  · cases h2:(c.Bf==2)
    · cases h3:(c.Bf==3)
      · rw [h1,h2,h3] at h;cases h
      · rw [h1,h2,h3] at h
        simp only [cond_true,cond_false,jf,beq_iff_eq] at h
        omega
    · rw [h1,h2] at h
      simp only [cond_true,cond_false,jf,beq_iff_eq] at h
      omega
  · rw [h1] at h
    simp only [cond_true,jf,beq_iff_eq] at h
    omega
theorem quy {m:Nat} (h1:2≤m) (h2:m≤5):shlS 1 (W64 ((m:Int)-1))=some ((2 ^ (m-1):Nat):Int)∧shlS 1 (IntKind.wrap .u64 (W64 ((m:Int)-1)))=some ((2 ^ (m-1):Nat):Int):=by
  have:m=2∨m=3∨m=4∨m=5:=by omega
  rcases this with rfl|rfl|rfl|rfl<;>exact ⟨by decide,by decide⟩
theorem quc {c:qw} (hc:qnV c) (hm:2≤c.Bd.length) (hm5:c.Bd.length≤5):Ev (fun n=>qf9 n c) (kindB c):=by
  have hl:=hc.Bd.len
  have hL:Ev (fun n=>qbd c n 0 0) (((clkN c.Bd c.Bd.length:Nat):Int),(c.Bd.length:Int)):=by
    refine loopF (Lf:=qbd c) (S:=fun j=>((clkN c.Bd j:Nat):Int)) (len:=c.Bd.length) (fun n=>?_) (fun j hj X hX=>?_)
    · simp only [qbd,ql (je _),cond_false]
    · have hn:clkN c.Bd j≤j:=qgf
      simp only [qbd,qk hj,cond_true,qB hj,jd,wS j,qde (show clkN c.Bd j<9223372036854775807 by omega)]
      have hck:clkN c.Bd (j+1)=clkN c.Bd j+(bif (gt c.Bd j).Br then 1 else 0):=rfl
      rw [hck] at hX
      cases hc:(gt c.Bd j).Br
      · rw [hc] at hX;exact Ev.ff rfl hX
      · rw [hc] at hX;exact Ev.tt rfl hX
  unfold qf9 kindB
  refine Ev.bind hL ?_
  simp only [qew,qcr,jd,(quy hm hm5).1]
  have hal:=hc.Au.len
  refine Ev.iff (fun _=>?_) (fun _=>Ev.iff (fun _=>?_) (fun _=>Ev.iff (fun _=>?_) (fun _=>.done)))
  · exact Ev.andP fun _=>Ev.andP fun _=>Ev.last (qed hc.Bo.len)
  · exact Ev.andP fun _=>Ev.andP fun _=>Ev.bind (qpD hal) (Ev.andP fun _=>Ev.bind (qpD hal) (Ev.bind (qpD hal) .done))
  · exact Ev.andP fun _=>Ev.andP fun _=>Ev.and (qpD hal) fun _=>Ev.and (qpD hal) fun _=>Ev.bind (qpD hal) .done
def cellB (c:qw):Bool :=
  nameB c.Bb&&(pinsB c.Bd&&((allN (fun j=>arcI c.Bd (gt c.Au j)&&newArc c.Au j) c.Au.length&&decide (c.Au.length≤8))&&(inI c.Ca 0 100000&&(inI c.Bu 0 100000&&kindB c))))
theorem qwU {c:qw} (hc:qnV c):Ev (fun n=>qlr n c) (cellB c):=by
  simp only [qlr,qpG hc.Bb,qdn,jd]
  unfold cellB
  refine Ev.andP fun _=>Ev.and (qvM hc.Bd) fun hp=>?_
  obtain ⟨⟨hm,hm5⟩,_⟩:=qhb hp
  exact Ev.and (qvE hc.Bd hc.Au hm) fun _=>Ev.andP fun _=>Ev.andP fun _=>Ev.last (quc hc hm hm5)
theorem qvG {c:qw} (hc:qnV c):Ev (fun n=>qlx n c) (cellB c):=by
  have hal:=hc.Au.len
  have htl:=hc.Bo.len
  have e:cellB c=((pinsB c.Bd&&(nameB c.Bb&&(decide (c.Au.length≤8)&&(inI c.Ca 0 100000&&inI c.Bu 0 100000))))&&(allN (fun j=>arcS c.Bd (gt c.Au j)&&newArc c.Au j) c.Au.length&&kindB c)):=by
    unfold cellB
    cases hk:kindB c
    · simp
    · cases hp:pinsB c.Bd
      · simp
      · rw [qib (fun j _=>by rw [qxA hp (qsN hk)])]
        cases nameB c.Bb<;>cases allN (fun j=>arcS c.Bd (gt c.Au j)&&newArc c.Au j) c.Au.length<;>cases decide (c.Au.length≤8)<;>cases inI c.Ca 0 100000<;>cases inI c.Bu 0 100000<;>rfl
  rw [e]
  unfold qlx
  refine Ev.bind (qvm hc.Bd) ?_
  cases hp:pinsB c.Bd
  · exact .done
  · obtain ⟨⟨hm,hm5⟩,_⟩:=qhb hp
    simp only [cond_true,jA,Jb,cond_false]
    refine Ev.guardB ?_ (fun _=>?_)
    · simp only [qcS,jd,qdf]
      refine Ev.orB (qmy hc.Bb) fun _=>?_
      rw [show decide ((c.Au.length:Int) > 8) = !decide (c.Au.length≤8) by rw [jm];simp;omega,qdf]
      exact Ev.orBP fun _=>Ev.orBP fun _=>.done
    · have hL2:∀ j,j<c.Au.length→Ev (fun n=>qdB c (j:Int) (gt c.Au j) n 0) (bif newArc c.Au j then .nxt (j:Int) else .ret false):=by
        intro j hj
        refine qeJ ?_ (fun i hi X hX=>Ev.succ ?_)
        · exact Ev.succ (by simp only [qdB,ql (je _),cond_false];exact .done)
        · simp only [qdB,qk hi,cond_true,qB (show i<c.Au.length by omega),jd,wS i]
          unfold sameArc
          cases ((gt c.Au i).Bf==(gt c.Au j).Bf)
          · exact hX
          · cases ((gt c.Au i).Bk==(gt c.Au j).Bk)
            · exact hX
            · cases ((gt c.Au i).To==(gt c.Au j).To)
              · exact hX
              · exact .done
      have hL1:Ev (fun n=>qfE c n 0) (bif allN (fun j=>arcS c.Bd (gt c.Au j)&&newArc c.Au j) c.Au.length then .nxt (c.Au.length:Int) else .ret false):=by
        refine qeJ ?_ (fun j hj X hX=>Ev.succ ?_)
        · exact Ev.succ (by simp only [qfE,ql (je _),cond_false];exact .done)
        · simp only [qfE,qk hj,cond_true,qB hj,jd,wS j]
          refine Ev.chk (qwh hc.Bd (qnx hc.Au hj) hm) fun _=>Ev.bind (hL2 j hj) ?_
          cases newArc c.Au j
          · exact .done
          · exact hX
      have hL3:Ev (fun n=>qfT c n 0) (bif (c.Bo.all fun x=>inI x 0 1) then .nxt (c.Bo.length:Int) else .ret false) :=
        qoH (fun n=>by simp only [qfT,ql (je _),cond_false]) (fun j hj X hX=>by
          simp only [qfT,qk hj,cond_true,qgR hj,jd,qcS,wS j,qdf]
          exact Ev.okP1 fun _=>hX)
      refine Ev.bind hL1 ?_
      cases hA:allN (fun j=>arcS c.Bd (gt c.Au j)&&newArc c.Au j) c.Au.length
      · exact .done
      · have hk:∀ j,j<c.Au.length→1≤(gt c.Au j).Bf∧(gt c.Au j).Bf≤5:=fun j hj=>by
          have:=qal.1 hA j hj
          rw [jf] at this
          exact qst this.1
        simp only [cond_true,jA]
        refine Ev.bind (qtT hc.Au hk) ?_
        simp only [(quy hm hm5).2,jd,
          show idx (vecC (fun k=>kindN c.Au k c.Au.length) 6) (1:Int)=some ((kindN c.Au 1 c.Au.length:Nat):Int) from qk9 (k:=1) (by omega),
          show idx (vecC (fun k=>kindN c.Au k c.Au.length) 6) (2:Int)=some ((kindN c.Au 2 c.Au.length:Nat):Int) from qk9 (k:=2) (by omega),
          show idx (vecC (fun k=>kindN c.Au k c.Au.length) 6) (3:Int)=some ((kindN c.Au 3 c.Au.length:Nat):Int) from qk9 (k:=3) (by omega),qsX,qvb]
        unfold kindB
        refine Ev.iff (fun _=>?_) (fun _=>Ev.iff (fun _=>?_) (fun _=>Ev.iff (fun _=>?_) (fun _=>.done)))
        · refine Ev.bind hL3 ?_
          cases (c.Bo.all fun x=>inI x 0 1)
          · exact Ev.now (by simp)
          · exact (Ev.andP (fun _=>.done)).cast (by rw [Bool.and_true])
        · refine (Ev.andP fun _=>Ev.andP fun _=>Ev.andP fun _=>.done).cast ?_
          cases (((clkN c.Bd c.Bd.length:Nat):Int)==1)<;>cases ((c.Bo.length:Int)==0)<;>cases hasB c.Au ((1:Nat):Int)<;>cases hasB c.Au ((2:Nat):Int)<;>cases hasB c.Au ((3:Nat):Int)<;>rfl
        · refine (Ev.andP fun _=>Ev.andP fun _=>Ev.andP fun _=>Ev.andP fun _=>.done).cast ?_
          cases (((clkN c.Bd c.Bd.length:Nat):Int)==1)<;>cases ((c.Bo.length:Int)==0)<;>cases hasB c.Au ((1:Nat):Int)<;>cases hasB c.Au ((2:Nat):Int)<;>cases hasB c.Au ((3:Nat):Int)<;>rfl
def libB (l:qn):Bool:=l.As.all cellB&&(decide (l.As.length≤8)&&namesB (l.As.map qw.Bb))
theorem qs9 {l:qn} (h:qii l):Ev (fun n=>qiK n l) (libB l):=by
  have hl:=h.As.len
  have hL:Ev (fun n=>qcO l n ([]:List ByteArray) 0) (bif allN (fun j=>cellB (gt l.As j)) l.As.length then .nxt (l.As.map qw.Bb,(l.As.length:Int)) else .ret false):=by
    refine loopN (Lf:=qcO l) (S:=fun j=>(l.As.take j).map qw.Bb) (fun j=>cellB (gt l.As j)) (fun n=>?_) (fun j hj hp X hX=>?_)
    · simp only [qcO,ql (je _),cond_false,jD]
    · simp only [qcO,qk hj,cond_true,qB hj,jd,qmj hj hl,qgb (g:=qw.Bb) hj,wS j]
      exact Ev.chk1 (qwU (qnx h.As hj)) hX
  unfold qiK libB
  rw [qi2]
  refine Ev.bind hL ?_
  cases allN (fun j=>cellB (gt l.As j)) l.As.length
  · exact .done
  · simp only [cond_true,jA,show decide ((l.As.length:Int)≤8)=decide (l.As.length≤8) from qnW (k:=8)]
    exact Ev.andP fun _=>Ev.last (qjT (qnR h.As (fun x hx=>hx.Bb)))
end Go.Fw


namespace Go.Fw
open Go
set_option maxRecDepth 100000
theorem qvw {c:qw} (h:cellB c=true):nameB c.Bb=true:=by
 unfold cellB at h;rw [jf] at h;exact h.1
theorem qja {c:qw} (h:cellB c=true):pinsB c.Bd=true:=by
 unfold cellB at h;simp only [jf] at h;exact h.2.1
theorem qsi {l:qn} (h:qii l):Ev (fun n=>qiy n l) (libB l):=by
 have hl:=h.As.len
 have hL2:∀ j,j<l.As.length→Ev (fun n=>qdH l (j:Int) n 0) (bif allN (neB (l.As.map qw.Bb) j) j then .nxt (j:Int) else .ret false):=by
  intro j hj
  refine qeJ ?_ (fun i hi X hX=>Ev.succ ?_)
  ·exact Ev.succ (by simp only [qdH,ql (je _),cond_false];exact .done)
  ·simp only [qdH,qk hi,cond_true,qB (show i<l.As.length by omega),qB hj,jd,qhH,wS i]
   unfold neB
   rw [qkF (g:=qw.Bb) (show i<l.As.length by omega),qkF (g:=qw.Bb) hj]
   exact Ev.chkP1 (fun _=>hX)
 have hL1:Ev (fun n=>qdD l n 0) (bif allN (fun j=>cellB (gt l.As j)&&allN (neB (l.As.map qw.Bb) j) j) l.As.length then .nxt (l.As.length:Int) else .ret false):=by
  refine qeJ ?_ (fun j hj X hX=>Ev.succ ?_)
  ·exact Ev.succ (by simp only [qdD,ql (je _),cond_false];exact .done)
  ·simp only [qdD,qk hj,cond_true,qB hj,jd,wS j]
   refine Ev.chk (qvG (qnx h.As hj)) fun _=>Ev.bind (hL2 j hj) ?_
   cases allN (neB (l.As.map qw.Bb) j) j
   ·exact .done
   ·exact hX
 have e:libB l=(allN (fun j=>cellB (gt l.As j)&&allN (neB (l.As.map qw.Bb) j) j) l.As.length&&decide (l.As.length≤8)):=by
  unfold libB namesB
  rw [qi2,jz,Bool.and_comm (decide (l.As.length≤8)),←Bool.and_assoc,←ql4]
  congr 1
  refine qib (fun j hj=>?_)
  rw [qkF (g:=qw.Bb) hj]
  cases hc:cellB (gt l.As j)
  ·rfl
  ·rw [qvw hc];rfl
 rw [e]
 unfold qiy
 refine Ev.bind hL1 ?_
 cases allN (fun j=>cellB (gt l.As j)&&allN (neB (l.As.map qw.Bb) j) j) l.As.length
 ·exact .done
 ·refine Ev.now ?_
  show some (decide ((l.As.length:Int)≤((8:Nat):Int)))=some (true&&decide (l.As.length≤8))
  rw [qnW,jA]
theorem qmi {c c':Nat→Nat} {m:Nat} {x:Int} (h0:0≤x) (h1:x<m) (hc:c x.toNat<9223372036854775807) (he:∀ k,k<m→c' k=c k+(bif x==(k:Int) then 1 else 0)) :
  idx (vecC c m) x=some (c x.toNat:Int)∧setS (vecC c m) x (W64 ((c x.toNat:Int)+1))=vecC c' m:=by
 have ex:x=(x.toNat:Int):=qeD h0
 have e1:=qk9 (c:=c) (m:=m) (k:=x.toNat) (by omega)
 have e2:=qsW (c:=c) (m:=m) (k:=x.toNat) hc
 rw [←ex] at e1 e2
 refine ⟨e1,e2.trans (qkT (fun k hk=>?_))⟩
 rw [he k hk]
 congr 2
 rw [jm];simp;omega
def netB (d:qd) (x:Int):Bool:=inI x 0 ((d.Ak.length:Int)-1)
theorem qui {n:Nat} {d:qd} {x:Int} (hl:d.Ak.length≤1048576):qdG n d x=some (netB d x):=by
 simp only [qdG,qic,jd,qdn,qfi (show d.Ak.length≤9223372036854775807 by omega)];rfl
theorem qsG {n:Nat} {d:qd} {x:Int} (hl:d.Ak.length≤1048576):qau n x 0 (W64 ((d.Ak.length:Int)-1))=some (netB d x):=by
 rw [qcS,qfi (show d.Ak.length≤9223372036854775807 by omega)];rfl
def hasNamesB (d:qd):Bool:=(decide (d.Aa.length≤14)&&(decide (d.Ak.length≤30)&&decide (d.Aj.length≤8)))&&(namesB (d.Aa.map qi.Bb)&&(namesB d.Ak&&namesB (d.Aj.map qK.Bb)))
theorem quD {d:qd} (h:qkG d):Ev (fun n=>qe9 n d) (hasNamesB d):=by
 have hli:=h.Aa.len
 have hlp:=h.Aj.len
 have hL1:Ev (fun n=>qbk d n ([]:List ByteArray) 0) (d.Aa.map qi.Bb,(d.Aa.length:Int)):=by
  refine loopF (Lf:=qbk d) (S:=fun j=>(d.Aa.take j).map qi.Bb) (len:=d.Aa.length) (fun n=>?_) (fun j hj X hX=>?_)
  ·simp only [qbk,ql (je _),cond_false,jD]
  ·simpa only [qbk,qk hj,cond_true,qB hj,jd,qmj hj hli,qgb (g:=qi.Bb) hj,wS j] using hX
 have hL2:Ev (fun n=>qbq d n ([]:List ByteArray) 0) (d.Aj.map qK.Bb,(d.Aj.length:Int)):=by
  refine loopF (Lf:=qbq d) (S:=fun j=>(d.Aj.take j).map qK.Bb) (len:=d.Aj.length) (fun n=>?_) (fun j hj X hX=>?_)
  ·simp only [qbq,ql (je _),cond_false,jD]
  ·simpa only [qbq,qk hj,cond_true,qB hj,jd,qmj hj hlp,qgb (g:=qK.Bb) hj,wS j] using hX
 unfold qe9 hasNamesB
 refine Ev.bind hL1 (Ev.bind hL2 ?_)
 simp only [jz]
 rw [show decide ((d.Aa.length:Int)≤14)=decide (d.Aa.length≤14) from qnW (k:=14),show decide ((d.Ak.length:Int)≤30)=decide (d.Ak.length≤30) from qnW (k:=30),show decide ((d.Aj.length:Int)≤8)=decide (d.Aj.length≤8) from qnW (k:=8)]
 rw [Bool.and_assoc,Bool.and_assoc]
 exact Ev.andP fun _=>Ev.andP fun _=>Ev.andP fun _=>Ev.and (qjT (qnR h.Aa (fun x hx=>hx.Bb))) fun _=>Ev.and (qjT h.Ak) fun _=>Ev.last (qjT (qnR h.Aj (fun x hx=>hx.Bb)))
def instB (l:qn) (d:qd) (x:qi):Bool:=inI x.Bt 0 ((l.As.length:Int)-1)&&(((x.Ak.length:Int)==((gt l.As x.Bt.toNat).Bd.length:Int))&&x.Ak.all (netB d))
theorem qr9 {d:qd} {l:qn} {x:qi} (hn:d.Ak.length≤1048576) (hc:l.As.length≤1048576) (hx:x.Ak.length≤1048576):Ev (fun n=>qd8 n d l x) (instB l d x):=by
 simp only [qd8,qgG,jd,qdn,qfi (show l.As.length≤9223372036854775807 by omega)]
 unfold instB
 refine Ev.andP fun hI=>?_
 rw [qbh] at hI
 rw [qdY hI.1 (by omega)]
 simp only [jd]
 refine Ev.andP fun _=>Ev.bind (b:=x.Ak.any fun y=>!netB d y) ?_ (Ev.now (by rw [qoJ]))
 unfold qaU
 exact Ev.bind (b:=ixL (fun y=>!netB d y) x.Ak) (qfX (fin:=(x.Ak.length:Int)) (Lf:=qM x.Ak d) (pf:=fun n y=>qdt n y d) (fun y _=>⟨0,fun n _=>by simp only [qdt,qui hn,jd]⟩)
   (fun n=>by simp only [qM,ql (je _),cond_false])
   (fun n j y hx=>by
    have hj:=(List.getElem?_eq_some_iff.1 hx).1
    simp only [qM,qk hj,cond_true,qan hx,jd,wS j])
   (fun n=>by unfold qa4;congr 1;funext o;cases o<;>rfl)) (Ev.now (by rw [qnr]))
def portB (d:qd) (p:qK):Bool:=inI p.Bv 1 2&&netB d p.Bx
theorem qzO {x:Int}:inI x 1 2=((x==1) || (x==2)):=by
 unfold inI;rw [jm];simp;omega
def lastN (x:qi):Int:=at0 x.Ak (x.Ak.length-1)
theorem qtQ {x:qi} (h1:1≤x.Ak.length) (h2:x.Ak.length≤1048576):idx x.Ak (W64 ((x.Ak.length:Int)-1))=some (lastN x):=by
 rw [qfi (by omega),show ((x.Ak.length:Int)-1)=((x.Ak.length-1:Nat):Int) by omega,qah (by omega)];rfl
theorem qw2 {d:qd} {x:qi} (h1:1≤x.Ak.length) (h:x.Ak.all (netB d)=true):0≤lastN x∧lastN x<d.Ak.length:=by
 rw [qha (d:=0),qal] at h
 have:=h (x.Ak.length-1) (by omega)
 unfold netB at this
 rw [qbh] at this
 unfold lastN at0
 omega
theorem qrQ {l:qn} {d:qd} {x:qi} (hl:libB l=true) (h:instB l d x=true):1≤x.Ak.length∧0≤lastN x∧lastN x<d.Ak.length:=by
 unfold instB at h
 simp only [jf,qbh,beq_iff_eq] at h
 obtain ⟨h1,h2,h3⟩:=h
 unfold libB at hl
 simp only [jf] at hl
 have hc:=hl.1
 rw [qi2,qal] at hc
 have:=qhb (qja (hc x.Bt.toNat (by omega)))
 have h4:1≤x.Ak.length:=by omega
 exact ⟨h4,qw2 h4 h3⟩
def drvI (d:qd) (k j:Nat):Nat:=cntP (fun i=>lastN (gt d.Aa i)==(k:Int)) j
def drvP (d:qd) (k j:Nat):Nat:=cntP (fun i=>((gt d.Aj i).Bv==1)&&((gt d.Aj i).Bx==(k:Int))) j
def drvB (d:qd):Bool:=allN (fun k=>((drvI d k d.Aa.length+drvP d k d.Aj.length:Nat):Int)==1) d.Ak.length
def designB (l:qn) (d:qd):Bool:=(libB l&&hasNamesB d)&&(d.Aa.all (instB l d)&&(d.Aj.all (portB d)&&drvB d))
theorem qp6 {d:qd} {k j:Nat}:drvI d k (j+1)=drvI d k j+(bif lastN (gt d.Aa j)==(k:Int) then 1 else 0):=rfl
theorem qnZ {d:qd} {k j:Nat}:drvP d k (j+1)=drvP d k j+(bif ((gt d.Aj j).Bv==1)&&((gt d.Aj j).Bx==(k:Int)) then 1 else 0):=rfl
theorem quE {l:qn} {d:qd} (h:qii l) (hd:qkG d):Ev (fun n=>qjp n l d) (designB l d):=by
 have hli:=hd.Aa.len
 have hlp:=hd.Aj.len
 have hln:=hd.Ak.len
 have hlc:=h.As.len
 unfold qjp designB
 refine Ev.guardB (Ev.or (qs9 h) fun _=>Ev.neg (quD hd)) fun hb=>?_
 rw [jf] at hb
 rw [qnO (m:=d.Ak.length) (by omega)]
 simp only [jd]
 have hL1:Ev (fun n=>qdk l d n (vecC (fun _=>0) d.Ak.length) 0) (bif allN (fun j=>instB l d (gt d.Aa j)) d.Aa.length then .nxt (vecC (fun k=>drvI d k d.Aa.length) d.Ak.length,(d.Aa.length:Int)) else .ret false):=by
  refine loopN (Lf:=qdk l d) (S:=fun j=>vecC (fun k=>drvI d k j) d.Ak.length) (fun j=>instB l d (gt d.Aa j)) (fun n=>?_) (fun j hj hp X hX=>?_)
  ·simp only [qdk,ql (je _),cond_false]
  ·simp only [qdk,qk hj,cond_true,qB hj,jd,wS j]
   have hxl:=(qnx hd.Aa hj).Ak.len
   refine Ev.chk1 (qr9 hln hlc hxl) fun hi=>?_
   obtain ⟨h1,h2,h3⟩:=qrQ hb.1 hi
   have hc:drvI d (lastN (gt d.Aa j)).toNat j≤j:=qgf
   obtain ⟨e1,e2⟩:=qmi (c:=fun k=>drvI d k j) (c':=fun k=>drvI d k (j+1)) h2 h3 (by show drvI _ _ _<_;omega) (fun k _=>qp6)
   simp only [qtQ h1 hxl,jd,e1,e2]
   exact hX hi
 have hL2:Ev (fun n=>qcq d n (vecC (fun k=>drvI d k d.Aa.length) d.Ak.length) 0) (bif allN (fun j=>portB d (gt d.Aj j)) d.Aj.length then .nxt (vecC (fun k=>drvI d k d.Aa.length+drvP d k d.Aj.length) d.Ak.length,(d.Aj.length:Int)) else .ret false):=by
  refine loopN (Lf:=qcq d) (S:=fun j=>vecC (fun k=>drvI d k d.Aa.length+drvP d k j) d.Ak.length) (fun j=>portB d (gt d.Aj j)) (fun n=>?_) (fun j hj hp X hX=>?_)
  ·simp only [qcq,ql (je _),cond_false]
  ·simp only [qcq,qk hj,cond_true,qB hj,jd,qui hln,bne,wS j]
   refine Ev.chkT1 ?_ fun hi=>?_
   ·unfold portB
    rw [qzO]
    cases ((gt d.Aj j).Bv==1)<;>cases ((gt d.Aj j).Bv==2)<;>exact .done
   ·have hX:=hX hi
    unfold portB netB at hi
    simp only [jf,qbh] at hi
    have hc1:drvI d (gt d.Aj j).Bx.toNat d.Aa.length≤d.Aa.length:=qgf
    have hc2:drvP d (gt d.Aj j).Bx.toNat j≤j:=qgf
    cases h1:((gt d.Aj j).Bv==1)
    ·have:vecC (fun k=>drvI d k d.Aa.length+drvP d k (j+1)) d.Ak.length=vecC (fun k=>drvI d k d.Aa.length+drvP d k j) d.Ak.length:=by
      refine qkT (fun k _=>?_)
      rw [qnZ,h1];rfl
     rw [this] at hX
     exact hX
    ·obtain ⟨e1,e2⟩:=qmi (c:=fun k=>drvI d k d.Aa.length+drvP d k j) (c':=fun k=>drvI d k d.Aa.length+drvP d k (j+1)) (x:=(gt d.Aj j).Bx) (m:=d.Ak.length) hi.2.1 (by omega) (by show drvI _ _ _+drvP _ _ _<_;omega) (fun k _=>by rw [qnZ,h1,jA];omega)
     simp only [cond_true,jd,e1,e2]
     exact hX
 rw [qi2,qi2]
 refine Ev.bind hL1 ?_
 cases allN (fun j=>instB l d (gt d.Aa j)) d.Aa.length
 ·exact .done
 ·refine Ev.bind hL2 ?_
  cases allN (fun j=>portB d (gt d.Aj j)) d.Aj.length
  ·exact .done
  ·simp only [cond_true,jA]
   unfold qbJ
   refine Ev.bind (b:=(vecC (fun k=>drvI d k d.Aa.length+drvP d k d.Aj.length) d.Ak.length).any fun x=>!(x==1)) (Ev.bind (b:=ixL (fun x=>!(x==1)) (vecC (fun k=>drvI d k d.Aa.length+drvP d k d.Aj.length) d.Ak.length)) (qfX (fin:=(((vecC (fun k=>drvI d k d.Aa.length+drvP d k d.Aj.length) d.Ak.length).length:Nat):Int)) (Lf:=qao (vecC (fun k=>drvI d k d.Aa.length+drvP d k d.Aj.length) d.Ak.length)) (pf:=fun n y=>qj6 n y) (fun y _=>.done)
    (fun n=>by simp only [qao,ql (je _),cond_false])
    (fun n j y hx=>by
     have hj:=(List.getElem?_eq_some_iff.1 hx).1
     have:j<d.Ak.length:=by rw [qnd] at hj;exact hj
     simp only [qao,qk hj,cond_true,qan hx,jd,wS j])
    (fun n=>by unfold qb7;congr 1;funext o;cases o<;>rfl)) (Ev.now (by rw [qnr]))) (Ev.now ?_)
   rw [qoJ,qha (d:=0),qnd]
   unfold drvB
   congr 1
   exact qib (fun k hk=>by
    have:=quq (c:=fun k=>drvI d k d.Aa.length+drvP d k d.Aj.length) hk
    unfold at0 at this
    rw [this])
theorem qt7 {l:qn} {d:qd} (h:qii l) (hd:qkG d):Ev (fun n=>qjt n l d) (d.Aa.all (instB l d)&&d.Aj.all (portB d)):=by
 have hli:=hd.Aa.len
 have hlp:=hd.Aj.len
 have hln:=hd.Ak.len
 have hlc:=h.As.len
 have hL2:∀ x:qi,x.Ak.length≤1048576→Ev (fun n=>qeo d x n 0) (bif x.Ak.all (netB d) then .nxt (x.Ak.length:Int) else .ret false):=fun x hx =>
  qoH (fun n=>by simp only [qeo,ql (je _),cond_false]) (fun j hj X hX=>by
   simp only [qeo,qk hj,cond_true,qgR hj,jd,qsG hln,wS j,qdf]
   exact Ev.okP1 fun _=>hX)
 have hL1:Ev (fun n=>qeu l d n 0) (bif allN (fun j=>instB l d (gt d.Aa j)) d.Aa.length then .nxt (d.Aa.length:Int) else .ret false):=by
  refine qeJ ?_ (fun j hj X hX=>Ev.succ ?_)
  ·exact Ev.succ (by simp only [qeu,ql (je _),cond_false];exact .done)
  ·simp only [qeu,qk hj,cond_true,qB hj,jd,qcS,qfi (show l.As.length≤9223372036854775807 by omega),wS j,bne]
   have hxl:=(qnx hd.Aa hj).Ak.len
   unfold instB
   rw [←Bool.and_assoc]
   refine Ev.chkT ?_ fun _=>Ev.bind (hL2 _ hxl) ?_
   ·simp only [qdf]
    refine Ev.orBP fun hI=>?_
    rw [qbh] at hI
    rw [qdY hI.1 (by omega)]
    exact .done
   ·cases (gt d.Aa j).Ak.all (netB d)
    ·exact .done
    ·exact hX
 have hL3:Ev (fun n=>qep d n 0) (bif allN (fun j=>portB d (gt d.Aj j)) d.Aj.length then .nxt (d.Aj.length:Int) else .ret false):=by
  refine qeJ ?_ (fun j hj X hX=>Ev.succ ?_)
  ·exact Ev.succ (by simp only [qep,ql (je _),cond_false];exact .done)
  ·simp only [qep,qk hj,cond_true,qB hj,jd,qsG hln,wS j]
   simp only [qcS,jd,qdf]
   unfold portB
   exact Ev.okP fun _=>Ev.okP1 fun _=>hX
 unfold qjt
 rw [qi2,qi2]
 refine Ev.bind hL1 ?_
 cases allN (fun j=>instB l d (gt d.Aa j)) d.Aa.length
 ·exact .done
 ·refine Ev.bind hL3 ?_
  cases allN (fun j=>portB d (gt d.Aj j)) d.Aj.length<;>exact .done
theorem qtF {l:qn} {d:qd} (h:qii l) (hd:qkG d):Ev (fun n=>qjr n l d) (designB l d):=by
 have hli:=hd.Aa.len
 have hlp:=hd.Aj.len
 have hln:=hd.Ak.len
 have hlc:=h.As.len
 have e:designB l d=((libB l&&(decide (d.Aa.length≤14)&&(decide (d.Ak.length≤30)&&(decide (d.Aj.length≤8)&&(d.Aa.all (instB l d)&&d.Aj.all (portB d))))))&&((namesB (d.Aa.map qi.Bb)&&(namesB (d.Aj.map qK.Bb)&&namesB d.Ak))&&drvB d)):=by
  unfold designB hasNamesB
  generalize libB l=a1
  generalize decide (d.Aa.length≤14)=a2
  generalize decide (d.Ak.length≤30)=a3
  generalize decide (d.Aj.length≤8)=a4
  generalize d.Aa.all (instB l d)=a5
  generalize d.Aj.all (portB d)=a6
  generalize namesB (d.Aa.map qi.Bb)=a7
  generalize namesB (d.Aj.map qK.Bb)=a8
  generalize namesB d.Ak=a9
  generalize drvB d=a10
  rw [jm]
  simp only [jf]
  constructor
  ·rintro ⟨⟨h1,⟨h2,h3,h4⟩,h7,h9,h8⟩,h5,h6,h10⟩
   exact ⟨⟨h1,h2,h3,h4,h5,h6⟩,⟨h7,h8,h9⟩,h10⟩
  ·rintro ⟨⟨h1,h2,h3,h4,h5,h6⟩,⟨h7,h8,h9⟩,h10⟩
   exact ⟨⟨h1,⟨h2,h3,h4⟩,h7,h9,h8⟩,h5,h6,h10⟩
 rw [e]
 unfold qjr
 refine Ev.guardB ?_ fun hb=>?_
 ·refine Ev.or (qsi h) fun _=>?_
  rw [show decide ((d.Aa.length:Int) > 14) = !decide (d.Aa.length≤14) by rw [jm];simp;omega,show decide ((d.Ak.length:Int) > 30) = !decide (d.Ak.length≤30) by rw [jm];simp;omega,show decide ((d.Aj.length:Int) > 8) = !decide (d.Aj.length≤8) by rw [jm];simp;omega]
  simp only [qdf]
  exact Ev.orBP fun _=>Ev.orBP fun _=>Ev.orBP fun _=>Ev.neg (qt7 h hd)
 ·simp only [jf] at hb
  obtain ⟨hlib,_,_,_,hI,hP⟩:=hb
  rw [qi2,qal] at hI hP
  have hL1:Ev (fun n=>qdg d n ([]:List ByteArray) 0) (d.Aa.map qi.Bb,(d.Aa.length:Int)):=by
   refine loopF (Lf:=qdg d) (S:=fun j=>(d.Aa.take j).map qi.Bb) (len:=d.Aa.length) (fun n=>?_) (fun j hj X hX=>?_)
   ·simp only [qdg,ql (je _),cond_false,jD]
   ·simpa only [qdg,qk hj,cond_true,qB hj,jd,qmj hj hli,qgb (g:=qi.Bb) hj,wS j] using hX
  have hL2:Ev (fun n=>qdr d n ([]:List ByteArray) 0) (d.Aj.map qK.Bb,(d.Aj.length:Int)):=by
   refine loopF (Lf:=qdr d) (S:=fun j=>(d.Aj.take j).map qK.Bb) (len:=d.Aj.length) (fun n=>?_) (fun j hj X hX=>?_)
   ·simp only [qdr,ql (je _),cond_false,jD]
   ·simpa only [qdr,qk hj,cond_true,qB hj,jd,qmj hj hlp,qgb (g:=qK.Bb) hj,wS j] using hX
  have hL3:Ev (fun n=>qdm d n (vecC (fun _=>0) d.Ak.length) 0) (vecC (fun k=>drvI d k d.Aa.length) d.Ak.length,(d.Aa.length:Int)):=by
   refine loopF (Lf:=qdm d) (S:=fun j=>vecC (fun k=>drvI d k j) d.Ak.length) (len:=d.Aa.length) (fun n=>?_) (fun j hj X hX=>?_)
   ·simp only [qdm,ql (je _),cond_false]
   ·have hxl:=(qnx hd.Aa hj).Ak.len
    obtain ⟨h1,h2,h3⟩:=qrQ hlib (hI j hj)
    have hc:drvI d (lastN (gt d.Aa j)).toNat j≤j:=qgf
    obtain ⟨e1,e2⟩:=qmi (c:=fun k=>drvI d k j) (c':=fun k=>drvI d k (j+1)) h2 h3 (by show drvI _ _ _<_;omega) (fun k _=>qp6)
    simpa only [qdm,qk hj,cond_true,qB hj,jd,wS j,qtQ h1 hxl,e1,e2] using hX
  have hL4:Ev (fun n=>qcA d n (vecC (fun k=>drvI d k d.Aa.length) d.Ak.length) 0) (vecC (fun k=>drvI d k d.Aa.length+drvP d k d.Aj.length) d.Ak.length,(d.Aj.length:Int)):=by
   refine loopF (Lf:=qcA d) (S:=fun j=>vecC (fun k=>drvI d k d.Aa.length+drvP d k j) d.Ak.length) (len:=d.Aj.length) (fun n=>?_) (fun j hj X hX=>?_)
   ·simp only [qcA,ql (je _),cond_false]
   ·have hi:=hP j hj
    unfold portB netB at hi
    simp only [jf,qbh] at hi
    have hc1:drvI d (gt d.Aj j).Bx.toNat d.Aa.length≤d.Aa.length:=qgf
    have hc2:drvP d (gt d.Aj j).Bx.toNat j≤j:=qgf
    simp only [qcA,qk hj,cond_true,qB hj,jd,wS j]
    cases h1:((gt d.Aj j).Bv==1)
    ·have:vecC (fun k=>drvI d k d.Aa.length+drvP d k (j+1)) d.Ak.length=vecC (fun k=>drvI d k d.Aa.length+drvP d k j) d.Ak.length:=by
      refine qkT (fun k _=>?_)
      rw [qnZ,h1];rfl
     rw [this] at hX
     exact hX
    ·obtain ⟨e1,e2⟩:=qmi (c:=fun k=>drvI d k d.Aa.length+drvP d k j) (c':=fun k=>drvI d k d.Aa.length+drvP d k (j+1)) (x:=(gt d.Aj j).Bx) (m:=d.Ak.length) hi.2.1 (by omega) (by show drvI _ _ _+drvP _ _ _<_;omega) (fun k _=>by rw [qnZ,h1,jA];omega)
     simp only [cond_true,jd,e1,e2]
     exact hX
  have hL5:Ev (fun n=>qeq (vecC (fun _=>0) d.Ak.length) (vecC (fun k=>drvI d k d.Aa.length+drvP d k d.Aj.length) d.Ak.length) n 0) (bif drvB d then .nxt (d.Ak.length:Int) else .ret false):=by
   refine qeJ ?_ (fun j hj X hX=>Ev.succ ?_)
   ·exact Ev.succ (by simp only [qeq,qnd,ql (je _),cond_false];exact .done)
   ·simp only [qeq,qnd,qk hj,cond_true,qk9 hj,jd,bne,qdf,wS j]
    exact Ev.okP1 fun _=>hX
  refine Ev.bind hL1 (Ev.bind hL2 ?_)
  refine Ev.guardB (Ev.or (qnl (qnR hd.Aa (fun x hx=>hx.Bb))) fun _=>Ev.or (qnl (qnR hd.Aj (fun x hx=>hx.Bb))) fun _=>Ev.neg (qnl hd.Ak)) fun _=>?_
  rw [qnO (m:=d.Ak.length) (by omega)]
  simp only [jd]
  refine Ev.bind hL3 (Ev.bind hL4 (Ev.bind hL5 ?_))
  cases drvB d<;>exact .done
end Go.Fw


namespace Go.Fw
open Go
set_option maxRecDepth 100000
theorem qyT {m k:Nat}:decide ((m:Int)<(k:Int)) = !decide (k≤m):=by rw [jm];simp
theorem qyp {m k:Nat}:decide ((m:Int) > (k:Int)) = !decide (m≤k):=by rw [jm];simp
def treeB (w:qD) (j:Nat):Bool:=bif decide (j=0) then (at0 w.Am j==-1)&&(at0 w.Bw j==0) else inI (at0 w.Am j) 0 ((j:Int)-1)
def wireB (w:qD) (s:Int):Bool :=
 lenB w.Am 1 8&&(((w.Bw.length:Int)==(w.Am.length:Int))&&(((w.Bs.length:Int)==(w.Am.length:Int))&&(allN (treeB w) w.Am.length &&
  ((w.Bw.all fun x=>inI x 0 1000)&&((w.Bs.all fun x=>inI x 0 500)&&(((w.Bl.length:Int)==s)&&(w.Bl.all fun x=>inI x 0 ((w.Am.length:Int)-1))))))))
theorem qwg {w:qD} (hl:w.Am.length≤1048576) (hr:((w.Bw.length:Int)==(w.Am.length:Int))=true):Ev (fun n=>qho n w) (allN (treeB w) w.Am.length):=by
 rw [beq_iff_eq] at hr
 have hL:Ev (fun n=>qbf w n 0) (bif allN (treeB w) w.Am.length then .nxt (w.Am.length:Int) else .ret false):=by
  refine qeJ ?_ (fun j hj X hX=>Ev.succ ?_)
  ·exact Ev.succ (by simp only [qbf,ql (je _),cond_false];exact .done)
  ·simp only [qbf,qk hj,cond_true,qah hj,jd,qdn,wS j,bne,qdf]
   unfold treeB
   by_cases h0:j=0
   ·subst h0
    rw [show idx w.Bw (0:Int)=some (at0 w.Bw 0) from qah (j:=0) (by omega)]
    simp only [jd]
    refine Ev.tt (by simp) (Ev.okP fun _=>Ev.okP1 fun _=>Ev.ff (by simp) hX)
   ·have e1:decide (j=0)=false:=by simp;omega
    have e2:((j:Int)==0)=false:=by simp;omega
    have e3:decide ((j:Int) > 0)=true:=by simp;omega
    rw [e1,e2,e3,qfi (show j≤9223372036854775807 by omega)]
    simp only [cond_false,cond_true]
    exact Ev.okP1 fun _=>hX
 unfold qho
 refine Ev.bind hL ?_
 cases allN (treeB w) w.Am.length<;>exact .done
theorem qwJ {w:qD} {s:Int} (h:qo2 w):Ev (fun n=>qlL n w s) (wireB w s):=by
 have hl:=h.Am.len
 simp only [qlL,qbs,jd,qdn,qfi (show w.Am.length≤9223372036854775807 by omega)]
 unfold wireB
 rw [show inI (w.Am.length:Int) 1 8=lenB w.Am 1 8 from qta (lo:=1) (hi:=8)]
 exact Ev.andP fun _=>Ev.andP fun hr=>Ev.andP fun _=>Ev.and (qwg hl hr) fun _=>Ev.and (qed h.Bw.len) fun _=>Ev.and (qed h.Bs.len) fun _=>Ev.andP fun _=>Ev.last (qed h.Bl.len)
theorem qvu {w:qD} {s:Int} (h:qo2 w):Ev (fun n=>qln n w s) (wireB w s):=by
 have hl:=h.Am.len
 have hsl:=h.Bl.len
 have e:wireB w s=((decide (1≤w.Am.length)&&(decide (w.Am.length≤8)&&(((w.Bw.length:Int)==(w.Am.length:Int))&&(((w.Bs.length:Int)==(w.Am.length:Int))&&((w.Bl.length:Int)==s)))))&&(allN (fun j=>(inI (at0 w.Bs j) 0 500&&inI (at0 w.Bw j) 0 1000)&&treeB w j) w.Am.length&&(w.Bl.all fun x=>inI x 0 ((w.Am.length:Int)-1)))):=by
  unfold wireB lenB
  cases h1:((w.Bw.length:Int)==(w.Am.length:Int))
  ·simp
  ·cases h2:((w.Bs.length:Int)==(w.Am.length:Int))
   ·simp
   ·rw [beq_iff_eq] at h1 h2
    rw [ql4,ql4]
    rw [qha (p:=fun x=>inI x 0 1000) (d:=0),qha (p:=fun x=>inI x 0 500) (d:=0),show w.Bw.length=w.Am.length by omega,show w.Bs.length=w.Am.length by omega]
    show _=(_&&((allN (fun j=>inI (w.Bs.getD j 0) 0 500) _&&allN (fun j=>inI (w.Bw.getD j 0) 0 1000) _&&_)&&_))
    generalize allN (fun j=>inI (w.Bs.getD j 0) 0 500) w.Am.length=a1
    generalize allN (fun j=>inI (w.Bw.getD j 0) 0 1000) w.Am.length=a2
    generalize allN (fun j=>treeB w j) w.Am.length=a3
    generalize ((w.Bl.length:Int)==s)=a4
    generalize decide (1≤w.Am.length)=a5
    generalize decide (w.Am.length≤8)=a6
    generalize (w.Bl.all fun x=>inI x 0 ((w.Am.length:Int)-1))=a7
    cases a1<;>cases a2<;>cases a3<;>cases a4<;>cases a5<;>cases a6<;>rfl
 rw [e]
 unfold qln
 refine Ev.guardB ?_ fun hb=>?_
 ·rw [show decide ((w.Am.length:Int)<1) = !decide (1≤w.Am.length) from qyT (k:=1),show decide ((w.Am.length:Int) > 8) = !decide (w.Am.length≤8) from qyp (k:=8)]
  simp only [bne,qdf]
  exact Ev.orBP fun _=>Ev.orBP fun _=>Ev.orBP fun _=>Ev.orBP fun _=>.done
 ·simp only [jf,beq_iff_eq] at hb
  have hL1:Ev (fun n=>qcQ w n 0) (bif allN (fun j=>(inI (at0 w.Bs j) 0 500&&inI (at0 w.Bw j) 0 1000)&&treeB w j) w.Am.length then .nxt (w.Am.length:Int) else .ret false):=by
   refine qeJ ?_ (fun j hj X hX=>Ev.succ ?_)
   ·exact Ev.succ (by simp only [qcQ,ql (je _),cond_false];exact .done)
   ·simp only [qcQ,qk hj,cond_true,qah hj,qah (show j<w.Bs.length by omega),qah (show j<w.Bw.length by omega),jd,qcS,wS j,bne,qdf]
    refine Ev.chkT (Ev.orBP fun _=>.done) fun _=>?_
    unfold treeB
    by_cases h0:j=0
    ·subst h0
     refine Ev.tt (by simp) (Ev.okP fun _=>Ev.okP1 fun _=>Ev.ff (by simp) hX)
    ·have e1:decide (j=0)=false:=by simp;omega
     have e2:((j:Int)==0)=false:=by simp;omega
     have e3:decide ((j:Int) > 0)=true:=by simp;omega
     rw [e1,e2,e3,qfi (show j≤9223372036854775807 by omega)]
     simp only [cond_false,cond_true]
     exact Ev.okP1 fun _=>hX
  have hL2:Ev (fun n=>qfJ w n 0) (bif (w.Bl.all fun x=>inI x 0 ((w.Am.length:Int)-1)) then .nxt (w.Bl.length:Int) else .ret false) :=
   qoH (fun n=>by simp only [qfJ,ql (je _),cond_false]) (fun j hj X hX=>by
    simp only [qfJ,qk hj,cond_true,qgR hj,jd,qcS,qfi (show w.Am.length≤9223372036854775807 by omega),wS j,qdf]
    exact Ev.okP1 fun _=>hX)
  refine Ev.bind hL1 ?_
  cases allN (fun j=>(inI (at0 w.Bs j) 0 500&&inI (at0 w.Bw j) 0 1000)&&treeB w j) w.Am.length
  ·exact .done
  ·refine Ev.bind hL2 ?_
   cases (w.Bl.all fun x=>inI x 0 ((w.Am.length:Int)-1))<;>exact .done
instance:Inhabited Tplace:=⟨⟨0,0,0,false⟩⟩
instance:Inhabited Tl05Place:=⟨⟨0,0,0,false⟩⟩
def toSp (p:Tplace):Tl05Place:=⟨p.instance_,p.pin,p.net,p.drives⟩
def plX (i:Nat) (x:qi) (j:Nat):List Tplace:=(List.range j).map fun (k:Nat)=>⟨(i:Int),(k:Int),at0 x.Ak k,decide (k+1=x.Ak.length)⟩
def plI (d:qd) (j:Nat):List Tplace:=(List.range j).flatMap fun (i:Nat)=>plX i (gt d.Aa i) (gt d.Aa i).Ak.length
def plP (d:qd) (j:Nat):List Tplace:=(List.range j).map fun (i:Nat)=>⟨-1,(i:Int),(gt d.Aj i).Bx,(gt d.Aj i).Bv==1⟩
def places (d:qd):List Tplace:=plI d d.Aa.length++plP d d.Aj.length
theorem qug {i:Nat} {x:qi} {j:Nat}:plX i x (j+1)=plX i x j++[⟨(i:Int),(j:Int),at0 x.Ak j,decide (j+1=x.Ak.length)⟩]:=by
 unfold plX;rw [List.range_succ,jL];rfl
theorem qnf {d:qd} {j:Nat}:plI d (j+1)=plI d j++plX j (gt d.Aa j) (gt d.Aa j).Ak.length:=by
 unfold plI;rw [List.range_succ,List.flatMap_append];simp
theorem quG {d:qd} {j:Nat}:plP d (j+1)=plP d j++[⟨-1,(j:Int),(gt d.Aj j).Bx,(gt d.Aj j).Bv==1⟩]:=by
 unfold plP;rw [List.range_succ,jL];rfl
theorem qqP {i:Nat} {x:qi} {j:Nat}:(plX i x j).length=j:=by simp [plX]
theorem qqT {d:qd} {j:Nat}:(plP d j).length=j:=by simp [plP]
structure smallD (d:qd):Prop where
 ni:d.Aa.length≤14
 nn:d.Ak.length≤30
 np:d.Aj.length≤8
 nx:∀ i,i<d.Aa.length→2≤(gt d.Aa i).Ak.length∧(gt d.Aa i).Ak.length≤5
theorem qY {l:qn} {d:qd} (h:designB l d=true):smallD d:=by
 unfold designB hasNamesB libB at h
 simp only [jf,decide_eq_true_eq] at h
 obtain ⟨⟨⟨hc,_⟩,⟨h1,h2,h3⟩,_⟩,hI,_⟩:=h
 refine ⟨h1,h2,h3,fun i hi=>?_⟩
 rw [qi2,qal] at hI hc
 have:=hI i hi
 unfold instB at this
 simp only [jf,qbh,beq_iff_eq] at this
 have h5:=qhb (qja (hc (gt d.Aa i).Bt.toNat (by omega)))
 omega
theorem qoW {d:qd} (h:smallD d) {j:Nat} (hj:j≤d.Aa.length):(plI d j).length≤5*j:=by
 induction j with
 | zero=>exact je _
 | succ j ih =>
  rw [qnf,jh,qqP]
  have:=ih (by omega)
  have:=h.nx j (by omega)
  omega
theorem qbb {d:qd} (h:smallD d):(places d).length≤78:=by
 unfold places
 rw [jh,qqT]
 have:=qoW h (je _)
 have:=h.ni
 have:=h.np
 omega
theorem qn2 {d:qd} (h:smallD d):Ev (fun n=>qcp n d) (places d):=by
 have h1:=h.ni
 have h2:=h.np
 have hL2:∀ i,i<d.Aa.length→∀ pre:List Tplace,pre.length≤100→Ev (fun n=>qbH (i:Int) (gt d.Aa i) n pre 0) (pre++plX i (gt d.Aa i) (gt d.Aa i).Ak.length,((gt d.Aa i).Ak.length:Int)):=by
  intro i hi pre hp
  have h5:=h.nx i hi
  have:=loopF (Lf:=qbH (i:Int) (gt d.Aa i)) (S:=fun j=>pre++plX i (gt d.Aa i) j) (len:=(gt d.Aa i).Ak.length) (fin:=(pre++plX i (gt d.Aa i) (gt d.Aa i).Ak.length,((gt d.Aa i).Ak.length:Int))) (fun n=>by
    simp only [qbH,ql (je _),cond_false])
   (fun j hj X hX=>by
    have hc:(pre++plX i (gt d.Aa i) j).length+[(⟨(i:Int),(j:Int),at0 (gt d.Aa i).Ak j,decide (j+1=(gt d.Aa i).Ak.length)⟩:Tplace)].length≤2147483648:=by
     rw [jh,qqP];simp;omega
    simp only [qbH,qk hj,cond_true,qah hj,jd,lastE hj (show (gt d.Aa i).Ak.length≤1048576 by omega),qdb hc,jq,←qug,wS j]
    exact hX)
  simpa [plX] using this
 have hL1:Ev (fun n=>qbD d n ([]:List Tplace) 0) (plI d d.Aa.length,(d.Aa.length:Int)):=by
  refine loopF (Lf:=qbD d) (S:=fun j=>plI d j) (len:=d.Aa.length) (fun n=>?_) (fun j hj X hX=>?_)
  ·simp only [qbD,ql (je _),cond_false]
  ·simp only [qbD,qk hj,cond_true,qB hj,jd,wS j]
   refine Ev.bind (hL2 j hj _ (by have:=qoW h (Nat.le_of_lt hj);omega)) ?_
   rw [←qnf]
   exact hX
 have hL3:Ev (fun n=>qbF d n (plI d d.Aa.length) 0) (places d,(d.Aj.length:Int)):=by
  have:=loopF (Lf:=qbF d) (S:=fun j=>plI d d.Aa.length++plP d j) (len:=d.Aj.length) (fin:=(places d,(d.Aj.length:Int))) (fun n=>by
    simp only [qbF,ql (je _),cond_false];rfl)
   (fun j hj X hX=>by
    have hc:(plI d d.Aa.length++plP d j).length+[(⟨-1,(j:Int),(gt d.Aj j).Bx,(gt d.Aj j).Bv==1⟩:Tplace)].length≤2147483648:=by
     rw [jh,qqT];have:=qoW h (je _);simp;omega
    simp only [qbF,qk hj,cond_true,qB hj,jd,qdb hc,jq,←quG,wS j]
    exact hX)
  simpa [plP] using this
 unfold qcp
 exact Ev.bind hL1 (Ev.bind hL3 .done)
theorem qie {d:qd} (h:smallD d):Ev (fun n=>qcg n d) ((places d).map toSp):=by
 have h1:=h.ni
 have h2:=h.np
 have hL2:∀ i,i<d.Aa.length→∀ pre:List Tplace,pre.length≤100→Ev (fun n=>qcK (i:Int) (gt d.Aa i) n (pre.map toSp) 0) ((pre++plX i (gt d.Aa i) (gt d.Aa i).Ak.length).map toSp,((gt d.Aa i).Ak.length:Int)):=by
  intro i hi pre hp
  have h5:=h.nx i hi
  have:=loopF (Lf:=qcK (i:Int) (gt d.Aa i)) (S:=fun j=>(pre++plX i (gt d.Aa i) j).map toSp) (len:=(gt d.Aa i).Ak.length) (fin:=((pre++plX i (gt d.Aa i) (gt d.Aa i).Ak.length).map toSp,((gt d.Aa i).Ak.length:Int))) (fun n=>by
    simp only [qcK,ql (je _),cond_false])
   (fun j hj X hX=>by
    have hc:((pre++plX i (gt d.Aa i) j).map toSp).length+[(⟨(i:Int),(j:Int),at0 (gt d.Aa i).Ak j,decide (j+1=(gt d.Aa i).Ak.length)⟩:Tl05Place)].length≤2147483648:=by
     rw [jz,jh,qqP];simp;omega
    simp only [qcK,qk hj,cond_true,qah hj,jd,lastE hj (show (gt d.Aa i).Ak.length≤1048576 by omega),qdb hc,wS j]
    rw [qug,←jq,jL] at hX
    exact hX)
  simpa [plX] using this
 have hL1:Ev (fun n=>qcF d n ([]:List Tl05Place) 0) ((plI d d.Aa.length).map toSp,(d.Aa.length:Int)):=by
  refine loopF (Lf:=qcF d) (S:=fun j=>(plI d j).map toSp) (len:=d.Aa.length) (fun n=>?_) (fun j hj X hX=>?_)
  ·simp only [qcF,ql (je _),cond_false]
  ·simp only [qcF,qk hj,cond_true,qB hj,jd,wS j]
   refine Ev.bind (hL2 j hj _ (by have:=qoW h (Nat.le_of_lt hj);omega)) ?_
   rw [←qnf]
   exact hX
 have hL3:Ev (fun n=>qcJ d n ((plI d d.Aa.length).map toSp) 0) ((places d).map toSp,(d.Aj.length:Int)):=by
  have:=loopF (Lf:=qcJ d) (S:=fun j=>(plI d d.Aa.length++plP d j).map toSp) (len:=d.Aj.length) (fin:=((places d).map toSp,(d.Aj.length:Int))) (fun n=>by
    simp only [qcJ,ql (je _),cond_false];rfl)
   (fun j hj X hX=>by
    have hc:((plI d d.Aa.length++plP d j).map toSp).length+[(⟨-1,(j:Int),(gt d.Aj j).Bx,(gt d.Aj j).Bv==1⟩:Tl05Place)].length≤2147483648:=by
     rw [jz,jh,qqT];have:=qoW h (je _);simp;omega
    simp only [qcJ,qk hj,cond_true,qB hj,jd,qdb hc,wS j]
    rw [quG,←jq,jL] at hX
    exact hX)
  simpa [plP] using this
 unfold qcg
 exact Ev.bind hL1 (Ev.bind hL3 .done)
def snkQ (d:qd) (k:Int) (i:Nat):Bool:=((gt (places d) i).net==k)&&!(gt (places d) i).drives
def sinksL (d:qd) (k:Int) (j:Nat):List Int:=((List.range j).filter (snkQ d k)).map fun (i:Nat)=>(i:Int)
def snkN (d:qd) (k:Int):Nat:=cntP (snkQ d k) (places d).length
theorem qjO {d:qd} {k:Int} {j:Nat}:sinksL d k (j+1)=sinksL d k j++(bif snkQ d k j then [(j:Int)] else []):=by
 unfold sinksL
 rw [List.range_succ,List.filter_append,jL]
 congr 1
 cases h:snkQ d k j<;>simp [h]
theorem qji {d:qd} {k:Int} {j:Nat}:(sinksL d k j).length=cntP (snkQ d k) j:=by
 induction j with
 | zero=>rfl
 | succ j ih =>
  rw [qjO,jh,ih]
  show _=cntP (snkQ d k) j+_
  congr 1
  cases snkQ d k j<;>rfl
theorem qpo {α β:Type} [Inhabited α] [Inhabited β] {xs:List α} {g:α→β} {j:Nat} (h:j<xs.length):gt (xs.map g) j=g (gt xs j):=by
 rw [qfx (by simpa using h),qfx h];simp
theorem qnG {d:qd} {k:Int} (h:smallD d):Ev (fun n=>qgC n d k) (sinksL d k (places d).length):=by
 have hl:=qbb h
 have hL:Ev (fun n=>qcy k ((places d).map toSp) n ([]:List Int) 0) (sinksL d k (places d).length,((places d).length:Int)):=by
  refine loopF (Lf:=qcy k ((places d).map toSp)) (S:=fun j=>sinksL d k j) (len:=(places d).length) (fun n=>?_) (fun j hj X hX=>?_)
  ·simp only [qcy,jz,ql (je _),cond_false]
  ·have hj':j<((places d).map toSp).length:=by simpa using hj
   have hc:(sinksL d k j).length+[(j:Int)].length≤2147483648:=by
    rw [qji]
    have:cntP (snkQ d k) j≤j:=qgf
    simp;omega
   simp only [qcy,qk hj',cond_true,qB hj',qpo hj,jd,wS j]
   rw [show ∀ p:Tplace,(toSp p).net=p.net from fun _=>rfl,show ∀ p:Tplace,(toSp p).drives=p.drives from fun _=>rfl]
   refine Ev.bind (b:=snkQ d k j) (Ev.andP fun _=>.done) ?_
   rw [qjO] at hX
   cases hq:snkQ d k j
   ·rw [hq] at hX
    simp only [cond_false,jX] at hX ⊢
    exact hX
   ·rw [hq] at hX
    simp only [cond_true,qdb hc,jd] at hX ⊢
    exact hX
 unfold qgC
 exact Ev.bind (qie h) (Ev.bind hL .done)
theorem qmH {l:qn} {d:qd} (h:designB l d=true) {i:Nat} (hi:i<(places d).length):0≤(gt (places d) i).net∧(gt (places d) i).net<d.Ak.length:=by
 unfold designB at h
 simp only [jf] at h
 obtain ⟨_,hI,hP,_⟩:=h
 rw [qi2,qal] at hI hP
 have hm:gt (places d) i ∈ places d:=by rw [qfx hi];exact jp hi
 generalize gt (places d) i=p at hm
 unfold places at hm
 rcases List.mem_append.1 hm with hm|hm
 ·unfold plI at hm
  obtain ⟨i,hi,hm⟩:=List.mem_flatMap.1 hm
  unfold plX at hm
  obtain ⟨k,hk,rfl⟩:=List.mem_map.1 hm
  have:=hI i (List.mem_range.1 hi)
  unfold instB at this
  simp only [jf] at this
  have h3:=this.2.2
  rw [qha (d:=0),qal] at h3
  have h4:=h3 k (List.mem_range.1 hk)
  unfold netB at h4
  rw [qbh] at h4
  show 0≤at0 _ _∧at0 _ _<_
  unfold at0
  omega
 ·unfold plP at hm
  obtain ⟨i,hi,rfl⟩:=List.mem_map.1 hm
  have:=hP i (List.mem_range.1 hi)
  unfold portB netB at this
  simp only [jf,qbh] at this
  show 0≤(gt d.Aj i).Bx∧(gt d.Aj i).Bx<_
  omega
def blockB (b:qg):Bool:=(designB b.Av b.Ab&&((b.Ac.length:Int)==(b.Ab.Ak.length:Int)))&&allN (fun j=>wireB (gt b.Ac j) (snkN b.Ab (j:Int))) b.Ac.length
theorem qvD {b:qg} (h:ql0 b):Ev (fun n=>qiA n b) (blockB b):=by
 have hwl:=h.Ac.len
 unfold qiA blockB
 refine Ev.guardB (Ev.or (quE h.Av h.Ab) fun _=>.done) fun hb=>?_
 rw [jf,beq_iff_eq] at hb
 obtain ⟨hd,hw⟩:=hb
 have hs:=qY hd
 have hl:=qbb hs
 have hn:=hs.nn
 rw [qnO (m:=b.Ac.length) (by omega)]
 simp only [jd]
 have hL1:Ev (fun n=>qc9 (places b.Ab) n (vecC (fun _=>0) b.Ac.length) 0) (vecC (fun k=>snkN b.Ab (k:Int)) b.Ac.length,((places b.Ab).length:Int)):=by
  refine loopF (Lf:=qc9 (places b.Ab)) (S:=fun j=>vecC (fun k=>cntP (snkQ b.Ab (k:Int)) j) b.Ac.length) (len:=(places b.Ab).length) (fun n=>?_) (fun j hj X hX=>?_)
  ·simp only [qc9,ql (je _),cond_false];rfl
  ·simp only [qc9,qk hj,cond_true,qB hj,jd,wS j]
   obtain ⟨n0,n1⟩:=qmH hd hj
   cases h1:(gt (places b.Ab) j).drives
   ·have hc:cntP (snkQ b.Ab (((gt (places b.Ab) j).net.toNat:Nat):Int)) j≤j:=qgf
    obtain ⟨e1,e2⟩:=qmi (c:=fun k=>cntP (snkQ b.Ab (k:Int)) j) (c':=fun k=>cntP (snkQ b.Ab (k:Int)) (j+1)) (x:=(gt (places b.Ab) j).net) (m:=b.Ac.length) n0 (by omega) (by show cntP _ _<_;omega) (fun k _=>by
     show cntP _ j+(bif snkQ b.Ab (k:Int) j then 1 else 0)=_
     unfold snkQ
     rw [h1,Bool.not_false,Bool.and_true])
    simp only [Bool.not_false,cond_true,jd,e1,e2]
    exact hX
   ·have:vecC (fun k=>cntP (snkQ b.Ab (k:Int)) (j+1)) b.Ac.length=vecC (fun k=>cntP (snkQ b.Ab (k:Int)) j) b.Ac.length:=by
     refine qkT (fun k _=>?_)
     show cntP _ j+(bif snkQ b.Ab (k:Int) j then 1 else 0)=_
     unfold snkQ
     rw [h1,Jb,Bool.and_false];rfl
    rw [this] at hX
    exact hX
 have hL2:Ev (fun n=>qeY b (vecC (fun k=>snkN b.Ab (k:Int)) b.Ac.length) n 0) (bif allN (fun j=>wireB (gt b.Ac j) (snkN b.Ab (j:Int))) b.Ac.length then .nxt (b.Ac.length:Int) else .ret false):=by
  refine qeJ ?_ (fun j hj X hX=>Ev.succ ?_)
  ·exact Ev.succ (by simp only [qeY,ql (je _),cond_false];exact .done)
  ·simp only [qeY,qk hj,cond_true,qB hj,qk9 hj,jd,wS j]
   exact Ev.chk1 (qwJ (qnx h.Ac hj)) fun _=>hX
 refine Ev.bind (qn2 hs) (Ev.bind hL1 (Ev.bind hL2 ?_))
 cases allN (fun j=>wireB (gt b.Ac j) (snkN b.Ab (j:Int))) b.Ac.length<;>exact .done
theorem qqd {b:qg} (h:ql0 b):Ev (fun n=>qhx n b) (blockB b):=by
 have hwl:=h.Ac.len
 unfold qhx blockB
 refine Ev.guardB (Ev.or (qtF h.Av h.Ab) fun _=>.done) fun hb=>?_
 rw [jf] at hb
 have hs:=qY hb.1
 have hL:Ev (fun n=>qe1 b n 0) (bif allN (fun j=>wireB (gt b.Ac j) (snkN b.Ab (j:Int))) b.Ac.length then .nxt (b.Ac.length:Int) else .ret false):=by
  refine qeJ ?_ (fun j hj X hX=>Ev.succ ?_)
  ·exact Ev.succ (by simp only [qe1,ql (je _),cond_false];exact .done)
  ·simp only [qe1,qk hj,cond_true,qB hj,jd,wS j]
   refine Ev.bind (qnG hs) ?_
   rw [qji]
   exact Ev.chk1 (qvu (qnx h.Ac hj)) fun _=>hX
 refine Ev.bind hL ?_
 cases allN (fun j=>wireB (gt b.Ac j) (snkN b.Ab (j:Int))) b.Ac.length<;>exact .done
end Go.Fw


namespace Go.Fw
open Go
set_option maxRecDepth 100000
def off (d:qd) (i:Nat):Nat:=(plI d i).length
def place1 (d:qd) (i k:Nat):Tplace:=⟨(i:Int),(k:Int),at0 (gt d.Aa i).Ak k,decide (k+1=(gt d.Aa i).Ak.length)⟩
def place2 (d:qd) (i:Nat):Tplace:=⟨-1,(i:Int),(gt d.Aj i).Bx,(gt d.Aj i).Bv==1⟩
theorem qlc {d:qd} {i:Nat}:off d (i+1)=off d i+(gt d.Aa i).Ak.length:=by
 unfold off;rw [qnf,jh,qqP]
theorem qvF {d:qd} {i j:Nat} (h:i≤j):off d i≤off d j:=by
 induction j with
 | zero =>
  obtain rfl:i=0:=by omega
  exact je _
 | succ j ih =>
  rcases Nat.lt_or_eq_of_le h with h|rfl
  ·rw [qlc];have:=ih (by omega);omega
  ·exact je _
theorem qg7 {d:qd}:(places d).length=off d d.Aa.length+d.Aj.length:=by
 unfold places off;rw [jh,qqT]
theorem qzV {d:qd} {n i k:Nat} (hi:i<n) (hk:k<(gt d.Aa i).Ak.length):off d i+k<off d n∧gt (plI d n) (off d i+k)=place1 d i k:=by
 induction n with
 | zero=>omega
 | succ n ih =>
  rw [qnf,ql3]
  rcases Nat.lt_succ_iff_lt_or_eq.1 hi with h|rfl
  ·obtain ⟨h1,h2⟩:=ih h
   refine ⟨by rw [qlc];omega,?_⟩
   rw [if_pos (show off d i+k<(plI d n).length from h1),h2]
  ·refine ⟨by rw [qlc];omega,?_⟩
   rw [if_neg (by unfold off;omega),show off d i+k-(plI d i).length=k by unfold off;omega]
   exact qrr hk
theorem qkI {d:qd} {i k:Nat} (hi:i<d.Aa.length) (hk:k<(gt d.Aa i).Ak.length):off d i+k<(places d).length∧gt (places d) (off d i+k)=place1 d i k:=by
 obtain ⟨h1,h2⟩:=qzV hi hk
 refine ⟨by rw [qg7];omega,?_⟩
 unfold places
 rw [ql3,if_pos (show off d i+k<(plI d d.Aa.length).length from h1),h2]
theorem qs0 {d:qd} {i:Nat} (hi:i<d.Aj.length):off d d.Aa.length+i<(places d).length∧gt (places d) (off d d.Aa.length+i)=place2 d i:=by
 refine ⟨by rw [qg7];omega,?_⟩
 unfold places
 rw [ql3,if_neg (by unfold off;omega),show off d d.Aa.length+i-(plI d d.Aa.length).length=i by unfold off;omega]
 exact qrr hi
theorem qwu {d:qd} {n j:Nat} (hj:j<off d n):∃ i k,i<n∧k<(gt d.Aa i).Ak.length∧j=off d i+k:=by
 induction n with
 | zero=>exact absurd hj (Nat.not_lt_zero _)
 | succ n ih =>
  by_cases h:j<off d n
  ·obtain ⟨i,k,h1,h2,h3⟩:=ih h
   exact ⟨i,k,by omega,h2,h3⟩
  ·rw [qlc] at hj
   exact ⟨n,j-off d n,by omega,by omega,by omega⟩
theorem qlE {d:qd} {j:Nat} (hj:j<(places d).length) :
  (∃ i k,i<d.Aa.length∧k<(gt d.Aa i).Ak.length∧j=off d i+k∧gt (places d) j=place1 d i k) ∨
  (∃ i,i<d.Aj.length∧j=off d d.Aa.length+i∧gt (places d) j=place2 d i):=by
 rw [qg7] at hj
 by_cases h:j<off d d.Aa.length
 ·obtain ⟨i,k,h1,h2,rfl⟩:=qwu h
  exact .inl ⟨i,k,h1,h2,rfl,(qkI h1 h2).2⟩
 ·refine .inr ⟨j-off d d.Aa.length,by omega,by omega,?_⟩
  have:=(qs0 (d:=d) (i:=j-off d d.Aa.length) (by omega)).2
  rwa [show off d d.Aa.length+(j-off d d.Aa.length)=j by omega] at this
def drvQ (d:qd) (k:Int) (j:Nat):Bool:=((gt (places d) j).net==k)&&(gt (places d) j).drives
theorem qtV {q:Nat→Bool} {m n:Nat}:cntP q (m+n)=cntP q m+cntP (fun j=>q (m+j)) n:=by
 induction n with
 | zero=>rfl
 | succ n ih =>
  show cntP q (m+n)+(bif q (m+n) then 1 else 0)=cntP q m+(cntP (fun j=>q (m+j)) n+(bif q (m+n) then 1 else 0))
  rw [ih];omega
theorem qwf {q:Nat→Bool} {n:Nat} {b:Bool} (h:1≤n) (h1:∀ j,j+1<n→q j=false) (h2:q (n-1)=b):cntP q n=bif b then 1 else 0:=by
 obtain ⟨m,rfl⟩:∃ m,n=m+1:=⟨n-1,by omega⟩
 show cntP q m+(bif q m then 1 else 0)=_
 rw [qnX.2 (fun j hj=>h1 j (by omega)),show m=m+1-1 by omega,h2,jZ]
theorem qvy {d:qd} {k:Nat} (hs:smallD d):cntP (drvQ d (k:Int)) (places d).length=drvI d k d.Aa.length+drvP d k d.Aj.length:=by
 rw [qg7,qtV]
 congr 1
 ·have:∀ n,n≤d.Aa.length→cntP (drvQ d (k:Int)) (off d n)=drvI d k n:=by
   intro n
   induction n with
   | zero=>intro _;rfl
   | succ n ih =>
    intro hn
    rw [qlc,qtV,ih (by omega),qp6]
    congr 1
    have h2:=(hs.nx n (by omega)).1
    refine qwf (by omega) (fun j hj=>?_) ?_
    ·show drvQ d _ (off d n+j)=false
     unfold drvQ
     rw [(qkI (by omega) (by omega)).2]
     unfold place1
     simp;omega
    ·show drvQ d _ (off d n+_)=_
     unfold drvQ
     rw [(qkI (by omega) (by omega)).2]
     unfold place1 lastN
     simp;omega
  exact this _ (je _)
 ·refine qrk (fun j hj=>?_)
  show drvQ d _ (off d _+j)=_
  unfold drvQ
  rw [(qs0 hj).2]
  unfold place2
  exact Bool.and_comm _ _
theorem qvO {l:qn} {d:qd} (h:designB l d=true) {k:Nat} (hk:k<d.Ak.length):cntP (drvQ d (k:Int)) (places d).length=1:=by
 rw [qvy (qY h)]
 unfold designB drvB at h
 simp only [jf] at h
 have:=qal.1 h.2.2.2 k hk
 rw [beq_iff_eq] at this
 omega
theorem qul {l:qn} {d:qd} (h:designB l d=true) {i j:Nat} (hi:i<(places d).length) (hj:j<(places d).length) (he:(gt (places d) i).net=(gt (places d) j).net) (h1:(gt (places d) i).drives=true) (h2:(gt (places d) j).drives=true):i=j:=by
 obtain ⟨n0,n1⟩:=qmH h hi
 have e:=qeD n0
 have:=qvO h (k:=(gt (places d) i).net.toNat) (by omega)
 refine quv (Nat.le_of_eq this) hi hj ?_ ?_
 ·unfold drvQ;rw [←e,h1];simp
 ·unfold drvQ;rw [←e,h2,he];simp
theorem qzS {l:qn} {d:qd} (h:designB l d=true) {k:Int} (h0:0≤k) (h1:k<d.Ak.length):∃ j,j<(places d).length∧(gt (places d) j).net=k∧(gt (places d) j).drives=true:=by
 have e:=qeD h0
 have:=qvO h (k:=k.toNat) (by omega)
 have hp:decide (0<cntP (drvQ d ((k.toNat:Nat):Int)) (places d).length)=true:=by rw [this];rfl
 rw [quM,jJ,qmP] at hp
 obtain ⟨j,hj,hq⟩:=hp
 rw [Bool.not_eq_false',←e] at hq
 unfold drvQ at hq
 simp only [jf,beq_iff_eq] at hq
 exact ⟨j,hj,hq.1,hq.2⟩
def cellAt (b:qg) (i:Int):qw:=gt b.Av.As (gt b.Ab.Aa i.toNat).Bt.toNat
theorem qhk {l:qn} {d:qd} (h:designB l d=true) {i:Nat} (hi:i<d.Aa.length) :
  (0≤(gt d.Aa i).Bt∧(gt d.Aa i).Bt<l.As.length)∧(gt d.Aa i).Ak.length=(gt l.As (gt d.Aa i).Bt.toNat).Bd.length∧cellB (gt l.As (gt d.Aa i).Bt.toNat)=true:=by
 unfold designB libB at h
 simp only [jf] at h
 obtain ⟨⟨⟨hc,_⟩,_⟩,hI,_⟩:=h
 rw [qi2,qal] at hI hc
 have:=hI i hi
 unfold instB at this
 simp only [jf,qbh,beq_iff_eq] at this
 exact ⟨⟨this.1.1,by omega⟩,by omega,hc _ (by omega)⟩
theorem qnE {c:qw} (h:cellB c=true) {j:Nat} (hj:j<c.Au.length):(1≤(gt c.Au j).Bf∧(gt c.Au j).Bf≤5)∧(0≤(gt c.Au j).Bk∧(gt c.Au j).Bk<(c.Bd.length:Int)-1)∧(0≤(gt c.Au j).To∧(gt c.Au j).To≤(c.Bd.length:Int)-1)∧arcS c.Bd (gt c.Au j)=true:=by
 unfold cellB at h
 simp only [jf] at h
 obtain ⟨_,hp,⟨ha,_⟩,_,_,hk⟩:=h
 have:=qal.1 ha j hj
 rw [jf,qxA hp (qsN hk)] at this
 have h1:=this.1
 refine ⟨qst h1,?_⟩
 have h2:=h1
 unfold arcS at h2
 simp only [jf,qbh] at h2
 refine ⟨⟨h2.1.1.1,by omega⟩,h2.1.2,h1⟩
theorem qop {c:qw} (h:cellB c=true):c.Au.length≤8:=by
 unfold cellB at h
 simp only [jf,decide_eq_true_eq] at h
 exact h.2.2.1.2
theorem qat {b:qg} (h:blockB b=true):designB b.Av b.Ab=true:=by
 unfold blockB at h;simp only [jf] at h;exact h.1.1
end Go.Fw
