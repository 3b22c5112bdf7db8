/- By a program of mine (gen.py): for each function a plain function and the proof that the code computes it. -/
import Derived.Test.YteofoidaapgdkaaGreatDoorA2
import Derived.Test.YteofoidaapgdkaaGreatDoorFw30
open Option renaming bind_some → jd
open Nat renaming le_refl → je, mul_le_mul_right → jn, le_of_ble_eq_true → jp, lt_of_lt_of_le → jr, succ_mul → jC, zero_add → jP, le_trans → jQ
open Bool renaming and_eq_true → jf, eq_iff_iff → jh, not_eq_true' → ju, true_and → jA
open Go.Result renaming andThen_ok → jg
open List renaming getElem?_eq_getElem → ji, length_append → jm, mem_cons_of_mem → jo, getElem?_append_left → jq, getElem_mem → js, mem_cons_self → jt, getElem?_take → jv, getElem?_append_right → jw, append_assoc → jx, getElem?_toArray → jz, eq_nil_of_length_eq_zero → jB, length_singleton → jD, length_map → jE, all_eq_true → jF, getElem_of_mem → jG, size_toArray → jH, getD_eq_getElem?_getD → jJ, map_append → jK, drop_eq_getElem_cons → jL, mem_of_getElem? → jM, not_mem_nil → jN, take_length → jO, mem_cons → jR
open Go.Sem renaming run_bind → jj, run_pure → jk
open Int renaming toNat_natCast → jy
open Array renaming getElem?_append_left → jI

namespace Go.Fw
open Go Go.Proofs
open Go.RowKit (Below)
set_option maxRecDepth 100000
set_option maxHeartbeats 1600000
variable {n:Nat} {w:World} {cs1 cs2 cs3 cs4 cs5 cs6 cs7 cs8 cs9:List Value}
def qcp (l:qn) (i1:Int):Nat→Int→Option (Flow Bool Int)
 | 0,_=>none
 | n+1,i2 =>
  bif decide (i2<i1) then
   (idx l.Ak i2).bind fun y2 =>
   (idx l.Ak i1).bind fun y3 =>
   bif (y2.Ar.toList==y3.Ar.toList) then some (.ret false) else
   qcp l i1 n (W64 (i2+1))
  else
   some (.nxt i2)
def qcu (l:qn):Nat→Int→Option (Flow Bool Int)
 | 0,_=>none
 | n+1,i1 =>
  bif decide (i1<(l.Ak.length:Int)) then
   (idx l.Ak i1).bind fun y1 =>
   (qiF n y1).bind fun r1 =>
   bif (!r1) then some (.ret false) else
   (qcp l i1 n 0).bind fun o=>match o with
   | .ret r=>some (.ret r)
   | .nxt _ =>
    qcu l n (W64 (i1+1))
  else
   some (.nxt i1)
def qgp (n:Nat) (l:qn):Option Bool :=
 (qcu l n 0).bind fun o=>match o with
 | .ret r=>some r
 | .nxt _ =>
  some (decide ((l.Ak.length:Int)≤8))
theorem qk7 {l:qn} (ha1:GoT.R w (old w) l cs1) {r:Bool} (hF:qgp n l=some r):RetV Tryz.prog 215 [GoT.v qn cs1] w r:=by
 obtain ⟨p1,k1,rfl,s1⟩:=qbd ha1
 refine zV 41 Tryz.func215 rfl fun h=>zSR (qu h rfl rfl fun w1 bb1 h=>X0 7 rfl ?_)
 obtain ⟨o1,hF,hK1⟩:=qf hF
 refine ql (rL (fun m e w'=>∃ (i1:Int),qcu l m i1=some o1∧e=[(1,.pointer (some ⟨bb1,0,none⟩)),(3,.int .i64 i1)]∧SH w w' [Ch.box bb1 [.slice p1 l.Ak.length k1] 46]) n ⟨_,hF,rfl,h⟩ rfl ?_)
 rintro m1 e1 w2 ⟨i1,hF,rfl,h⟩
 rcases m1 with _|m1
 ·cases hF
 refine X1 9 0 h rfl (qh rfl hF ?_ ?_)<;>intro hF
 ·refine X1 9 0 h rfl ?_
  obtain ⟨y1,hy1,hF,he1,b1,_,q1,cs2,hp1,hq1,hr1,hc2⟩:=s1.ix hF
  obtain ⟨p2,k2,p3,k3,p4,k4,rfl,s2,s3,s4⟩:=qU hr1
  refine zxe hp1 hq1 he1 rfl (zc 0 (hc2.below h.below) rfl (zcB h hF (qmU (qh3 y1 (h.oldS s2) (h.oldS s3) (h.oldS s4))) rfl fun r1 w3 h hF=>X0 2 rfl (qh rfl hF ?_ ?_)))<;>intro hF
  ·refine X0 4 rfl ?_
   obtain rfl:=qa hF;replace hF:=hK1
   exact rb h hF rfl
  refine X0 5 rfl ?_
  obtain ⟨o2,hF,hK2⟩:=qf hF
  refine ql (rL (fun m e w'=>∃ (i2:Int),qcp l i1 m i2=some o2∧e=[(1,.pointer (some ⟨bb1,0,none⟩)),(3,.int .i64 i1),(4,.int .i64 i2)]∧SH w w' [Ch.box bb1 [.slice p1 l.Ak.length k1] 46]) m1 ⟨_,hF,rfl,h⟩ rfl ?_)
  rintro m2 e2 w4 ⟨i2,hF,rfl,h⟩
  rcases m2 with _|m2
  ·cases hF
  refine X0 7 rfl (qh rfl hF ?_ ?_)<;>intro hF
  ·refine X0 4 rfl (rD (Y1 2 0 h rfl ?_))
   refine zd1 rfl ?_
   obtain ⟨y2,hy2,hF,he2,b2,_,q2,cs3,hp2,hq2,hr3,hc5⟩:=s1.ix hF
   obtain ⟨p5,k5,p6,k6,p7,k7,rfl,s5,s6,s7⟩:=qU hr3
   refine zdxe hp2 hq2 he2 rfl (zd1 rfl (zdc 0 (hc5.below h.below) rfl (Y1 2 0 h rfl ?_)))
   refine zd1 rfl ?_
   obtain ⟨y3,hy3,hF,he3,b3,_,q3,cs4,hp3,hq3,hr4,hc6⟩:=s1.ix hF
   obtain ⟨p8,k8,p9,k9,p10,k10,rfl,s8,s9,s10⟩:=qU hr4
   refine zdxe hp3 hq3 he3 rfl (zd1 rfl (zdc 0 (hc6.below h.below) rfl (zd1 rfl (dN h fun w5 h=>qh rfl hF ?_ ?_))))<;>intro hF
   ·refine X0 4 rfl ?_
    obtain rfl:=qa hF;replace hF:=hK2
    obtain rfl:=qa hF;replace hF:=hK1
    exact rb h hF rfl
   exact X0 7 rfl (rK ⟨_,hF,rfl,h⟩ rfl)
  refine qr rfl ?_
  obtain rfl:=qa hF;replace hF:=hK2
  exact X0 6 rfl (rK ⟨_,hF,rfl,h⟩ rfl)
 refine qr rfl ?_
 obtain rfl:=qa hF;replace hF:=hK1
 exact X1 8 0 h rfl (rb h hF rfl)
def qc1 (a_1:qc) (y1:qd):Nat→Int→Option (Flow Bool Int)
 | 0,_=>none
 | n+1,i2 =>
  bif decide (i2<(y1.Ah.length:Int)) then
   (idx y1.Ah i2).bind fun y2 =>
   (qX n y2 0 (W64 ((a_1.Ah.length:Int)-1))).bind fun r1 =>
   bif (!r1) then some (.ret false) else
   qc1 a_1 y1 n (W64 (i2+1))
  else
   some (.nxt i2)
def qc7 (a_1:qc):Nat→Int→Option (Flow Bool Int)
 | 0,_=>none
 | n+1,i3 =>
  bif decide (i3<(a_1.Af.length:Int)) then
   (idx a_1.Af i3).bind fun y4 =>
   (qX n y4.Bm 1 2).bind fun r3 =>
   bif (!r3) then some (.ret false) else
   (idx a_1.Af i3).bind fun y5 =>
   (qX n y5.Bp 0 (W64 ((a_1.Ah.length:Int)-1))).bind fun r4 =>
   bif (!r4) then some (.ret false) else
   qc7 a_1 n (W64 (i3+1))
  else
   some (.nxt i3)
def qc6 (a_0:qn) (a_1:qc):Nat→Int→Option (Flow Bool Int)
 | 0,_=>none
 | n+1,i1 =>
  bif decide (i1<(a_1.Aa.length:Int)) then
   (idx a_1.Aa i1).bind fun y1 =>
   (
    (qX n y1.Bl 0 (W64 ((a_0.Ak.length:Int)-1))).bind fun r2 =>
    bif (!r2) then some true else
    (idx a_0.Ak y1.Bl).bind fun y3 =>
    some ((y1.Ah.length:Int) != (y3.Am.length:Int))).bind fun b2 =>
   bif b2 then some (.ret false) else
   (qc1 a_1 y1 n 0).bind fun o=>match o with
   | .ret r=>some (.ret r)
   | .nxt _ =>
    qc6 a_0 a_1 n (W64 (i1+1))
  else
   some (.nxt i1)
def qgZ (n:Nat) (a_0:qn) (a_1:qc):Option Bool :=
 (qc6 a_0 a_1 n 0).bind fun o=>match o with
 | .ret r=>some r
 | .nxt _ =>
  (qc7 a_1 n 0).bind fun o=>match o with
  | .ret r=>some r
  | .nxt _ =>
   some true
theorem qlU {a_0:qn} {a_1:qc} (ha1:GoT.R w (old w) a_0 cs1) (ha2:GoT.R w (old w) a_1 cs2) {r:Bool} (hF:qgZ n a_0 a_1=some r):RetV Tryz.prog 216 [GoT.v qn cs1,GoT.v qc cs2] w r:=by
 obtain ⟨p1,k1,rfl,s1⟩:=qbd ha1
 obtain ⟨p2,k2,p3,k3,p4,k4,rfl,s2,s3,s4⟩:=qad ha2
 refine zV 90 Tryz.func216 rfl fun h=>zSR (qu h rfl rfl fun w1 bb1 h=>qu h rfl rfl fun w2 bb2 h=>X1 14 0 h rfl ?_)
 obtain ⟨o1,hF,hK1⟩:=qf hF
 refine ql (rL (fun m e w'=>∃ (i1:Int),qc6 a_0 a_1 m i1=some o1∧e=[(2,.pointer (some ⟨bb1,0,none⟩)),(3,.pointer (some ⟨bb2,0,none⟩)),(5,.int .i64 (a_1.Ah.length:Int)),(6,.int .i64 i1)]∧SH w w' [Ch.box bb2 (qaN a_1 p2 p3 p4 k2 k3 k4) 50,Ch.box bb1 [.slice p1 a_0.Ak.length k1] 46]) n ⟨_,hF,rfl,h⟩ rfl ?_)
 rintro m1 e1 w3 ⟨i1,hF,rfl,h⟩
 rcases m1 with _|m1
 ·cases hF
 refine X1 9 0 h rfl (qh rfl hF ?_ ?_)<;>intro hF
 ·refine X1 8 0 h rfl ?_
  obtain ⟨y1,hy1,hF,he1,b1,_,q1,cs3,hp1,hq1,hr1,hc2⟩:=s2.ix hF
  obtain ⟨p5,k5,rfl,s5⟩:=qM hr1
  refine zxe hp1 hq1 he1 rfl (zc 0 (hc2.below h.below) rfl (qx qb h rfl rfl rfl fun w4 bb3 h=>zs 0 h rfl fun w5 h=>zNSS ?_))
  obtain ⟨KF1,hKF1,o3,hF,hK3⟩:=bindE hF
  refine qcx (fun e w'=>∃ (b2:Bool),KF1 b2=some o1∧e=[(2,.pointer (some ⟨bb1,0,none⟩)),(3,.pointer (some ⟨bb2,0,none⟩)),(5,.int .i64 (a_1.Ah.length:Int)),(6,.int .i64 i1),(7,.pointer (some ⟨bb3,0,none⟩)),(46,.bool b2)]∧SH w w' [Ch.box bb3 (qhv y1 p5 k5) 174,Ch.box bb2 (qaN a_1 p2 p3 p4 k2 k3 k4) 50,Ch.box bb1 [.slice p1 a_0.Ak.length k1] 46]) ?_ ?_
  ·refine rD (Y1 2 0 h rfl ?_)
   refine Y1 2 2 h rfl ?_
   refine zd2 rfl ?_
   obtain ⟨r2,hr4,hF⟩:=qf hF
   refine qbF r2 (vsB _) (cB 84 rfl) (fun _ hb=>qR  hr4) rfl rfl rfl rfl (zd2 rfl (qba (t:=33) hF rfl ?_ ?_))<;>intro hF
   ·refine Y0 13 rfl (dN h fun w8 h=>?_)
    obtain rfl:=qa hF
    exact rG ⟨_,hK3,rfl,h⟩ rfl
   refine Y1 4 0 h rfl ?_
   refine Y1 6 2 h rfl ?_
   refine Y1 4 0 h rfl ?_
   refine Y0 1 rfl ?_
   obtain ⟨y3,hy3,hF,he3,b4,_,q3,cs5,hp3,hq3,hr5,hc7⟩:=s1.ix hF
   obtain ⟨p6,k6,p7,k7,p8,k8,rfl,s6,s7,s8⟩:=qU hr5
   refine zdxe hp3 hq3 he3 rfl (Y0 3 rfl (zdc 2 (hc7.below h.below) rfl (Y0 5 rfl (dN h fun w9 h=>?_))))
   obtain rfl:=qa hF
   exact rG ⟨_,hK3,rfl,h⟩ rfl
  rintro e3 w10 ⟨b2,hF,rfl,h⟩
  subst hKF1
  refine qh rfl hF ?_ ?_<;>intro hF
  ·refine X0 4 rfl ?_
   obtain rfl:=qa hF;replace hF:=hK1
   exact rb h hF rfl
  refine X0 5 rfl ?_
  obtain ⟨o2,hF,hK2⟩:=qf hF
  refine ql (rL (fun m e w'=>∃ (i2:Int),qc1 a_1 y1 m i2=some o2∧e=[(2,.pointer (some ⟨bb1,0,none⟩)),(3,.pointer (some ⟨bb2,0,none⟩)),(5,.int .i64 (a_1.Ah.length:Int)),(6,.int .i64 i1),(7,.pointer (some ⟨bb3,0,none⟩)),(8,.int .i64 i2)]∧SH w w' [Ch.box bb3 (qhv y1 p5 k5) 174,Ch.box bb2 (qaN a_1 p2 p3 p4 k2 k3 k4) 50,Ch.box bb1 [.slice p1 a_0.Ak.length k1] 46]) m1 ⟨_,hF,rfl,h⟩ rfl ?_)
  rintro m2 e2 w6 ⟨i2,hF,rfl,h⟩
  rcases m2 with _|m2
  ·cases hF
  refine X1 9 0 h rfl (qh rfl hF ?_ ?_)<;>intro hF
  ·refine X1 8 0 h rfl ?_
   obtain ⟨y2,hy2,hF,he2,b3,_,q2,cs4,hp2,hq2,rfl,hc5⟩:=s5.ix hF
   refine zxe hp2 hq2 he2 rfl (zc 0 (hc5.below h.below) rfl (zp2 rfl (zcB h hF qR rfl fun r1 w7 h hF=>X0 2 rfl (qh rfl hF ?_ ?_))))<;>intro hF
   ·refine X0 4 rfl ?_
    obtain rfl:=qa hF;replace hF:=hK2
    obtain rfl:=qa hF;replace hF:=hK1
    exact rb h hF rfl
   exact X0 7 rfl (rK ⟨_,hF,rfl,h⟩ rfl)
  refine qr rfl ?_
  obtain rfl:=qa hF;replace hF:=hK2
  refine X0 6 rfl ?_
  replace h:=h.pick [1,2] rfl
  exact rK ⟨_,hF,rfl,h⟩ rfl
 refine qr rfl ?_
 obtain rfl:=qa hF;replace hF:=hK1
 refine X0 5 rfl ?_
 obtain ⟨o4,hF,hK4⟩:=qf hF
 refine ql ?_
 replace h:=h.pick [0] rfl
 refine rL (fun m e w'=>∃ (i3:Int),qc7 a_1 m i3=some o4∧e=[(3,.pointer (some ⟨bb2,0,none⟩)),(5,.int .i64 (a_1.Ah.length:Int)),(9,.int .i64 i3)]∧SH w w' [Ch.box bb2 (qaN a_1 p2 p3 p4 k2 k3 k4) 50]) n ⟨_,hF,rfl,h⟩ rfl ?_
 rintro m3 e4 w11 ⟨i3,hF,rfl,h⟩
 rcases m3 with _|m3
 ·cases hF
 refine X1 9 0 h rfl (qh rfl hF ?_ ?_)<;>intro hF
 ·refine X1 8 0 h rfl ?_
  obtain ⟨y4,hy4,hF,he4,b5,_,q4,cs6,hp4,hq4,hr6,hc9⟩:=s4.ix hF
  obtain rfl:=qak hr6
  refine zxe hp4 hq4 he4 rfl (zp1 rfl (zc 1 (hc9.below h.below) rfl (zcB h hF qR rfl fun r3 w12 h hF=>zp2 rfl (qg (t:=78) hF rfl ?_ ?_))))<;>intro hF
  ·refine X0 12 rfl (qb2 rfl rfl (X0 4 rfl ?_))
   obtain rfl:=qa hF;replace hF:=hK4
   exact rb h hF rfl
  refine X1 7 0 h rfl ?_
  obtain ⟨y5,hy5,hF,he5,b6,_,q5,cs7,hp5,hq5,hr8,hc10⟩:=s4.ix hF
  obtain rfl:=qak hr8
  refine zxe hp5 hq5 he5 rfl (X0 3 rfl (zc 2 (hc10.below h.below) rfl (X0 5 rfl (zcB h hF qR rfl fun r4 w13 h hF=>X0 4 rfl (qh rfl hF ?_ ?_)))))<;>intro hF
  ·refine X0 4 rfl ?_
   obtain rfl:=qa hF;replace hF:=hK4
   exact rb h hF rfl
  exact X0 7 rfl (rK ⟨_,hF,rfl,h⟩ rfl)
 refine qr rfl ?_
 obtain rfl:=qa hF;replace hF:=hK4
 exact X0 4 rfl (rb h hF rfl)
def qdc (list:(List ByteArray)) (i1:Int):Nat→Int→Option (Flow Bool Int)
 | 0,_=>none
 | n+1,i2 =>
  bif decide (i2<i1) then
   (idx list i2).bind fun y2 =>
   (idx list i1).bind fun y3 =>
   bif (y2.toList==y3.toList) then some (.ret false) else
   qdc list i1 n (W64 (i2+1))
  else
   some (.nxt i2)
def qcZ (list:(List ByteArray)):Nat→Int→Option (Flow Bool Int)
 | 0,_=>none
 | n+1,i1 =>
  bif decide (i1<(list.length:Int)) then
   (idx list i1).bind fun y1 =>
   (qfh n y1).bind fun r1 =>
   bif (!r1) then some (.ret false) else
   (qdc list i1 n 0).bind fun o=>match o with
   | .ret r=>some (.ret r)
   | .nxt _ =>
    qcZ list n (W64 (i1+1))
  else
   some (.nxt i1)
def qeQ (n:Nat) (list:(List ByteArray)):Option Bool :=
 (qcZ list n 0).bind fun o=>match o with
 | .ret r=>some r
 | .nxt _ =>
  some true
theorem qgK {list:(List ByteArray)} (ha1:GoT.R w (old w) list cs1) {r:Bool} (hF:qeQ n list=some r):RetV Tryz.prog 217 [GoT.v (List ByteArray) cs1] w r:=by
 obtain ⟨p1,k1,rfl,s1⟩:=ha1
 refine zV 31 Tryz.func217 rfl fun h=>X0 9 rfl ?_
 obtain ⟨o1,hF,hK1⟩:=qf hF
 refine ql (rL (fun m e w'=>∃ (i1:Int),qcZ list m i1=some o1∧e=[(0,.slice p1 list.length k1),(3,.int .i64 i1)]∧SH w w' []) n ⟨_,hF,rfl,h⟩ rfl ?_)
 rintro m1 e1 w1 ⟨i1,hF,rfl,h⟩
 rcases m1 with _|m1
 ·cases hF
 refine X0 8 rfl (qh rfl hF ?_ ?_)<;>intro hF
 ·refine X0 8 rfl ?_
  obtain ⟨y1,hy1,hF,he1,b1,_,q1,cs2,hp1,hq1,rfl,hc2⟩:=s1.ix hF
  refine zxe hp1 hq1 he1 rfl (zc 0 (hc2.below h.below) rfl (zcB h hF qhy rfl fun r1 w2 h hF=>X0 2 rfl (qh rfl hF ?_ ?_)))<;>intro hF
  ·refine X0 4 rfl ?_
   obtain rfl:=qa hF;replace hF:=hK1
   exact rb h hF rfl
  refine X0 5 rfl ?_
  obtain ⟨o2,hF,hK2⟩:=qf hF
  refine ql (rL (fun m e w'=>∃ (i2:Int),qdc list i1 m i2=some o2∧e=[(0,.slice p1 list.length k1),(3,.int .i64 i1),(4,.int .i64 i2)]∧SH w w' []) m1 ⟨_,hF,rfl,h⟩ rfl ?_)
  rintro m2 e2 w3 ⟨i2,hF,rfl,h⟩
  rcases m2 with _|m2
  ·cases hF
  refine X0 7 rfl (qh rfl hF ?_ ?_)<;>intro hF
  ·refine X0 4 rfl (rD (zd2 rfl ?_))
   obtain ⟨y2,hy2,hF,he2,b2,_,q2,cs3,hp2,hq2,rfl,hc5⟩:=s1.ix hF
   refine zdxe hp2 hq2 he2 rfl (zdc 0 (hc5.below h.below) rfl (zd2 rfl ?_))
   obtain ⟨y3,hy3,hF,he3,b3,_,q3,cs4,hp3,hq3,rfl,hc6⟩:=s1.ix hF
   refine zdxe hp3 hq3 he3 rfl (zdc 0 (hc6.below h.below) rfl (zd1 rfl (dN h fun w4 h=>qh rfl hF ?_ ?_)))<;>intro hF
   ·refine X0 4 rfl ?_
    obtain rfl:=qa hF;replace hF:=hK2
    obtain rfl:=qa hF;replace hF:=hK1
    exact rb h hF rfl
   exact X0 7 rfl (rK ⟨_,hF,rfl,h⟩ rfl)
  refine qr rfl ?_
  obtain rfl:=qa hF;replace hF:=hK2
  exact X0 6 rfl (rK ⟨_,hF,rfl,h⟩ rfl)
 refine qr rfl ?_
 obtain rfl:=qa hF;replace hF:=hK1
 exact X0 4 rfl (rb h hF rfl)
def qc4 (x5:(List Int)) (x7:(List Int)):Nat→Int→Option (Flow Bool Int)
 | 0,_=>none
 | n+1,i5 =>
  bif decide (i5<(x5.length:Int)) then
   (idx x7 i5).bind fun y11 =>
   bif (y11 != 1) then some (.ret false) else
   qc4 x5 x7 n (W64 (i5+1))
  else
   some (.nxt i5)
def qbB (a_1:qc):Nat→(List Int)→Int→Option ((List Int) × Int)
 | 0,_,_=>none
 | n+1,x7,i4 =>
  bif decide (i4<(a_1.Af.length:Int)) then
   (idx a_1.Af i4).bind fun y7 =>
   bif (y7.Bm==1) then
    (idx a_1.Af i4).bind fun y8 =>
    (idx x7 y8.Bp).bind fun y9 =>
    (idx x7 y8.Bp).bind fun _ =>
    qbB a_1 n (setS x7 y8.Bp (W64 (y9+1))) (W64 (i4+1))
   else
    qbB a_1 n x7 (W64 (i4+1))
  else
   some (x7,i4)
def qcb (a_1:qc):Nat→(List Int)→Int→Option ((List Int) × Int)
 | 0,_,_=>none
 | n+1,x6,i3 =>
  bif decide (i3<(a_1.Aa.length:Int)) then
   (idx a_1.Aa i3).bind fun y3 =>
   (idx y3.Ah (W64 ((y3.Ah.length:Int)-1))).bind fun y4 =>
   (idx x6 y4).bind fun y5 =>
   (idx x6 y4).bind fun _ =>
   qcb a_1 n (setS x6 y4 (W64 (y5+1))) (W64 (i3+1))
  else
   some (x6,i3)
def qb6 (a_1:qc):Nat→(List ByteArray)→Int→Option ((List ByteArray) × Int)
 | 0,_,_=>none
 | n+1,x3,i2 =>
  bif decide (i2<(a_1.Af.length:Int)) then
   (idx a_1.Af i2).bind fun y2 =>
   (appS x3 ([y2.Ar]:List ByteArray)).bind fun x4 =>
   qb6 a_1 n x4 (W64 (i2+1))
  else
   some (x3,i2)
def qb5 (a_1:qc):Nat→(List ByteArray)→Int→Option ((List ByteArray) × Int)
 | 0,_,_=>none
 | n+1,x1,i1 =>
  bif decide (i1<(a_1.Aa.length:Int)) then
   (idx a_1.Aa i1).bind fun y1 =>
   (appS x1 ([y1.Ar]:List ByteArray)).bind fun x2 =>
   qb5 a_1 n x2 (W64 (i1+1))
  else
   some (x1,i1)
def qgX (n:Nat) (a_0:qn) (a_1:qc):Option Bool :=
 (
  (qgp n a_0).bind fun r4 =>
  bif (!r4) then some true else
  bif decide ((a_1.Aa.length:Int) > 14) then some true else
  bif decide ((a_1.Ah.length:Int) > 30) then some true else
  bif decide ((a_1.Af.length:Int) > 8) then some true else
  (qgZ n a_0 a_1).bind fun r5 =>
  some (!r5)).bind fun b1 =>
 bif b1 then some false else
 (qb5 a_1 n ([]:List ByteArray) 0).bind fun o=>match o with
 | (x1,_) =>
  (qb6 a_1 n ([]:List ByteArray) 0).bind fun o=>match o with
  | (x3,_) =>
   (
    (qeQ n x1).bind fun r1 =>
    bif (!r1) then some true else
    (qeQ n x3).bind fun r2 =>
    bif (!r2) then some true else
    (qeQ n a_1.Ah).bind fun r3 =>
    some (!r3)).bind fun b4 =>
   bif b4 then some false else
   (mkS (a_1.Ah.length:Int) (0:Int)).bind fun x5 =>
   (qcb a_1 n x5 0).bind fun o=>match o with
   | (x6,_) =>
    (qbB a_1 n x6 0).bind fun o=>match o with
    | (x7,_) =>
     (qc4 x5 x7 n 0).bind fun o=>match o with
     | .ret r=>some r
     | .nxt _ =>
      some true
theorem qlK {a_0:qn} {a_1:qc} (ha1:GoT.R w (old w) a_0 cs1) (ha2:GoT.R w (old w) a_1 cs2) {r:Bool} (hF:qgX n a_0 a_1=some r):RetV Tryz.prog 144 [GoT.v qn cs1,GoT.v qc cs2] w r:=by
 obtain ⟨p1,k1,rfl,s1⟩:=qbd ha1
 obtain ⟨p2,k2,p3,k3,p4,k4,rfl,s2,s3,s4⟩:=qad ha2
 refine zV 153 Tryz.func144 rfl fun h=>zSR (qu h rfl rfl fun w1 bb1 h=>qu h rfl rfl fun w2 bb2 h=>X0 4 rfl ?_)
 obtain ⟨KF2,hKF2,o7,hF,hK7⟩:=bindE hF
 refine qcx (fun e w'=>∃ (b1:Bool),KF2 b1=some r∧e=[(3,.pointer (some ⟨bb2,0,none⟩)),(40,.bool b1)]∧SH w w' [Ch.box bb2 (qaN a_1 p2 p3 p4 k2 k3 k4) 50]) ?_ ?_
 ·refine X1 2 1 h rfl (zcB h hF (qk7 (h.old ha1)) rfl fun r4 w21 h hF=>zp2 rfl (qg (t:=17) hF rfl ?_ ?_))<;>intro hF
  ·refine X0 24 rfl ?_
   replace h:=h.pick [0] rfl
   obtain rfl:=qa hF
   exact rG ⟨_,hK7,rfl,h⟩ rfl
  refine X1 10 0 h rfl (qg (t:=23) hF rfl ?_ ?_)<;>intro hF
  ·refine X0 18 rfl ?_
   replace h:=h.pick [0] rfl
   obtain rfl:=qa hF
   exact rG ⟨_,hK7,rfl,h⟩ rfl
  refine X1 10 0 h rfl (qg (t:=29) hF rfl ?_ ?_)<;>intro hF
  ·refine X0 12 rfl ?_
   replace h:=h.pick [0] rfl
   obtain rfl:=qa hF
   exact rG ⟨_,hK7,rfl,h⟩ rfl
  refine X1 10 0 h rfl (qg (t:=35) hF rfl ?_ ?_)<;>intro hF
  ·refine X0 6 rfl ?_
   replace h:=h.pick [0] rfl
   obtain rfl:=qa hF
   exact rG ⟨_,hK7,rfl,h⟩ rfl
  refine X2 5 1 0 h rfl (zcB h hF (qlU (h.old ha1) (h.old ha2)) rfl fun r5 w22 h hF=>X0 4 rfl ?_)
  replace h:=h.pick [0] rfl
  obtain rfl:=qa hF
  exact rG ⟨_,hK7,rfl,h⟩ rfl
 rintro e7 w23 ⟨b1,hF,rfl,h⟩
 subst hKF2
 refine qh rfl hF ?_ ?_<;>intro hF
 ·exact X0 4 rfl (rb h hF rfl)
 refine zKSR (qab qb [] _ ([]:List ByteArray) h rfl rfl rfl rfl rfl rfl rfl rfl rfl trivial rfl fun w3 p5 S1 h=>X0 7 rfl ?_)
 obtain ⟨o1,hF,hK1⟩:=qf hF
 refine ql (rL (fun m e w'=>∃ (S2:Nat→Prop) (p6:Option Addr) (ln1:Nat) (k5:Nat) (x1:(List ByteArray)) (i1:Int),qb5 a_1 m x1 i1=some o1∧e=[(3,.pointer (some ⟨bb2,0,none⟩)),(5,.slice p6 ln1 k5),(6,.int .i64 i1)]∧SH w w' [Ch.own S2 (x1:List ByteArray) [.slice p6 ln1 k5],Ch.box bb2 (qaN a_1 p2 p3 p4 k2 k3 k4) 50]) n ⟨_,_,_,_,_,_,hF,rfl,h⟩ rfl ?_)
 rintro m1 e1 w4 ⟨S2,p6,ln1,k5,x1,i1,hF,rfl,h⟩
 obtain rfl:=(h.sl 0 rfl).2
 rcases m1 with _|m1
 ·cases hF
 refine X1 9 1 h rfl (qh rfl hF ?_ ?_)<;>intro hF
 ·refine X1 8 1 h rfl ?_
  obtain ⟨y1,hy1,hF,he1,b2,_,q1,cs3,hp1,hq1,hr1,hc3⟩:=s2.ix hF
  obtain ⟨p7,k6,rfl,s5⟩:=qM hr1
  refine zxe hp1 hq1 he1 rfl (zp1 rfl (zc 0 (hc3.below h.below) rfl (qab qb [.tmp 55] _ ([y1.Ar]:List ByteArray) h rfl rfl rfl rfl rfl rfl rfl rfl rfl ⟨rfl,trivial⟩ rfl fun w5 p8 S3 h=>?_)))
  obtain ⟨x2,hx1,hF⟩:=qf hF
  obtain ⟨g1,hx1⟩:=qaY hx1
  refine qd1 qb 1 h rfl (h.sl 0 rfl).1 (h.sl 0 rfl).2 rfl rfl rfl rfl rfl rfl rfl rfl rfl g1 hx1 rfl fun w6 p9 k7 S4 h=>X0 8 rfl ?_
  replace h:=h.pick [1,2] rfl
  exact rK ⟨_,_,_,_,_,_,hF,rfl,h⟩ rfl
 refine qr rfl ?_
 obtain rfl:=qa hF;replace hF:=hK1
 refine zSR (qab qb [] _ ([]:List ByteArray) h rfl rfl rfl rfl rfl rfl rfl rfl rfl trivial rfl fun w7 p10 S5 h=>X0 7 rfl ?_)
 obtain ⟨o2,hF,hK2⟩:=qf hF
 refine ql (rL (fun m e w'=>∃ (S6:Nat→Prop) (p11:Option Addr) (ln2:Nat) (k8:Nat) (x3:(List ByteArray)) (i2:Int),qb6 a_1 m x3 i2=some o2∧e=[(3,.pointer (some ⟨bb2,0,none⟩)),(5,.slice p6 x1.length k5),(7,.slice p11 ln2 k8),(8,.int .i64 i2)]∧SH w w' [Ch.own S6 (x3:List ByteArray) [.slice p11 ln2 k8],Ch.own S2 (x1:List ByteArray) [.slice p6 x1.length k5],Ch.box bb2 (qaN a_1 p2 p3 p4 k2 k3 k4) 50]) n ⟨_,_,_,_,_,_,hF,rfl,h⟩ rfl ?_)
 rintro m2 e2 w8 ⟨S6,p11,ln2,k8,x3,i2,hF,rfl,h⟩
 obtain rfl:=(h.sl 0 rfl).2
 rcases m2 with _|m2
 ·cases hF
 refine X1 9 2 h rfl (qh rfl hF ?_ ?_)<;>intro hF
 ·refine X1 8 2 h rfl ?_
  obtain ⟨y2,hy2,hF,he2,b3,_,q2,cs4,hp2,hq2,hr2,hc5⟩:=s4.ix hF
  obtain rfl:=qak hr2
  refine zxe hp2 hq2 he2 rfl (zp1 rfl (zc 0 (hc5.below h.below) rfl (qab qb [.tmp 72] _ ([y2.Ar]:List ByteArray) h rfl rfl rfl rfl rfl rfl rfl rfl rfl ⟨rfl,trivial⟩ rfl fun w9 p12 S7 h=>?_)))
  obtain ⟨x4,hx2,hF⟩:=qf hF
  obtain ⟨g2,hx2⟩:=qaY hx2
  refine qd1 qb 1 h rfl (h.sl 0 rfl).1 (h.sl 0 rfl).2 rfl rfl rfl rfl rfl rfl rfl rfl rfl g2 hx2 rfl fun w10 p13 k9 S8 h=>X0 8 rfl ?_
  replace h:=h.pick [1,2,3] rfl
  exact rK ⟨_,_,_,_,_,_,hF,rfl,h⟩ rfl
 refine qr rfl ?_
 obtain rfl:=qa hF;replace hF:=hK2
 refine zSS ?_
 obtain ⟨KF1,hKF1,o6,hF,hK6⟩:=bindE hF
 refine qcx (fun e w'=>∃ (b4:Bool),KF1 b4=some r∧e=[(3,.pointer (some ⟨bb2,0,none⟩)),(88,.bool b4)]∧SH w w' [Ch.box bb2 (qaN a_1 p2 p3 p4 k2 k3 k4) 50]) ?_ ?_
 ·refine X0 2 rfl (zcB h hF (qgK (h.own 1 rfl)) rfl fun r1 w17 h hF=>zp2 rfl (qg (t:=78) hF rfl ?_ ?_))<;>intro hF
  ·refine X0 11 rfl ?_
   replace h:=h.pick [2] rfl
   obtain rfl:=qa hF
   exact rG ⟨_,hK6,rfl,h⟩ rfl
  refine X0 3 rfl (zcB h hF (qgK (h.own 0 rfl)) rfl fun r2 w18 h hF=>X0 4 rfl (qg (t:=83) hF rfl ?_ ?_))<;>intro hF
  ·refine X0 6 rfl ?_
   replace h:=h.pick [2] rfl
   obtain rfl:=qa hF
   exact rG ⟨_,hK6,rfl,h⟩ rfl
  refine X1 5 2 h rfl (zcB h hF (qgK ⟨_,_,rfl,(h.oldS s3)⟩) rfl fun r3 w19 h hF=>X0 4 rfl ?_)
  replace h:=h.pick [2] rfl
  obtain rfl:=qa hF
  exact rG ⟨_,hK6,rfl,h⟩ rfl
 rintro e6 w20 ⟨b4,hF,rfl,h⟩
 subst hKF1
 refine qh rfl hF ?_ ?_<;>intro hF
 ·exact X0 4 rfl (rb h hF rfl)
 refine X1 6 0 h rfl ?_
 obtain ⟨x5,hx3,hF⟩:=qf hF
 obtain ⟨g3,g4,hx3⟩:=qbM hx3
 refine qcT qb Int h rfl rfl rfl rfl rfl rfl rfl rfl rfl g3 g4 hx3 rfl fun w11 S9 p14 h=>X0 7 rfl ?_
 obtain ⟨o3,hF,hK3⟩:=qf hF
 refine ql (rL (fun m e w'=>∃ (x6:(List Int)) (i3:Int),qcb a_1 m x6 i3=some o3∧e=[(3,.pointer (some ⟨bb2,0,none⟩)),(9,.slice p14 x5.length x5.length),(10,.int .i64 i3)]∧SH w w' [Ch.own S9 (x6:List Int) [.slice p14 x5.length x5.length],Ch.box bb2 (qaN a_1 p2 p3 p4 k2 k3 k4) 50]) n ⟨_,_,hF,rfl,h⟩ rfl ?_)
 rintro m3 e3 w12 ⟨x6,i3,hF,rfl,h⟩
 rcases m3 with _|m3
 ·cases hF
 refine X1 9 1 h rfl (qh rfl hF ?_ ?_)<;>intro hF
 ·refine X1 8 1 h rfl ?_
  obtain ⟨y3,hy3,hF,he3,b5,_,q3,cs5,hp3,hq3,hr3,hc8⟩:=s2.ix hF
  obtain ⟨p15,k10,rfl,s6⟩:=qM hr3
  refine zxe hp3 hq3 he3 rfl (zp1 rfl (zc 2 (hc8.below h.below) rfl (X0 8 rfl ?_)))
  obtain ⟨y4,hy4,hF,he4,b6,_,q4,cs6,hp4,hq4,rfl,hc9⟩:=s6.ix hF
  refine zxe hp4 hq4 he4 rfl (zc 0 (hc9.below h.below) rfl ?_)
  obtain ⟨y5,hy5,hF,he5,b7,_,q5,cs7,hp5,hq5,rfl,hc10⟩:=(h.sl 0 rfl).1.ix hF
  refine zx hp5 hq5 ⟨he5.1,qJ he5.2.1 (h.sl 0 rfl).2⟩ rfl (zc 0 hc10 rfl (zp1 rfl ?_))
  obtain ⟨y6,hy6,hF,he6,b8,_,q6,cs8,hp6,hq6,rfl,hc11⟩:=(h.sl 0 rfl).1.ix hF
  exact zx hp6 hq6 ⟨he6.1,qJ he6.2.1 (h.sl 0 rfl).2⟩ rfl (qaS qb 0 0 (W64 (y5+1)) h rfl hy6 hp6 hq6 rfl hc11 rfl rfl rfl rfl rfl rfl rfl fun w13 h=>X0 7 rfl (rK ⟨_,_,hF,rfl,h⟩ rfl))
 refine qr rfl ?_
 obtain rfl:=qa hF;replace hF:=hK3
 refine X0 5 rfl ?_
 obtain ⟨o4,hF,hK4⟩:=qf hF
 refine ql (rL (fun m e w'=>∃ (x7:(List Int)) (i4:Int),qbB a_1 m x7 i4=some o4∧e=[(3,.pointer (some ⟨bb2,0,none⟩)),(9,.slice p14 x5.length x5.length),(12,.int .i64 i4)]∧SH w w' [Ch.own S9 (x7:List Int) [.slice p14 x5.length x5.length],Ch.box bb2 (qaN a_1 p2 p3 p4 k2 k3 k4) 50]) n ⟨_,_,hF,rfl,h⟩ rfl ?_)
 rintro m4 e4 w14 ⟨x7,i4,hF,rfl,h⟩
 rcases m4 with _|m4
 ·cases hF
 refine X1 9 1 h rfl (qh rfl hF ?_ ?_)<;>intro hF
 ·refine X1 8 1 h rfl ?_
  obtain ⟨y7,hy7,hF,he7,b9,_,q7,cs9,hp7,hq7,hr7,hc13⟩:=s4.ix hF
  obtain rfl:=qak hr7
  refine zxe hp7 hq7 he7 rfl (zp1 rfl (zc 1 (hc13.below h.below) rfl (X0 2 rfl (qh rfl hF ?_ ?_))))<;>intro hF
  ·refine X1 5 1 h rfl ?_
   obtain ⟨y8,hy8,hF,he8,b10,_,q8,cs10,hp8,hq8,hr8,hc15⟩:=s4.ix hF
   obtain rfl:=qak hr8
   refine zxe hp8 hq8 he8 rfl (zp1 rfl (zc 2 (hc15.below h.below) rfl ?_))
   obtain ⟨y9,hy9,hF,he9,b11,_,q9,cs11,hp9,hq9,rfl,hc16⟩:=(h.sl 0 rfl).1.ix hF
   refine zx hp9 hq9 ⟨he9.1,qJ he9.2.1 (h.sl 0 rfl).2⟩ rfl (zc 0 hc16 rfl (zp1 rfl ?_))
   obtain ⟨y10,hy10,hF,he10,b12,_,q10,cs12,hp10,hq10,rfl,hc17⟩:=(h.sl 0 rfl).1.ix hF
   exact zx hp10 hq10 ⟨he10.1,qJ he10.2.1 (h.sl 0 rfl).2⟩ rfl (qaS qb 0 0 (W64 (y9+1)) h rfl hy10 hp10 hq10 rfl hc17 rfl rfl rfl rfl rfl rfl rfl fun w15 h=>X0 7 rfl (rK ⟨_,_,hF,rfl,h⟩ rfl))
  exact X0 7 rfl (rK ⟨_,_,hF,rfl,h⟩ rfl)
 refine qr rfl ?_
 obtain rfl:=qa hF;replace hF:=hK4
 refine X0 5 rfl ?_
 obtain ⟨o5,hF,hK5⟩:=qf hF
 refine ql ?_
 replace h:=h.pick [0] rfl
 refine rL (fun m e w'=>∃ (i5:Int),qc4 x5 x7 m i5=some o5∧e=[(9,.slice p14 x5.length x5.length),(13,.int .i64 i5)]∧SH w w' [Ch.own S9 (x7:List Int) [.slice p14 x5.length x5.length]]) n ⟨_,hF,rfl,h⟩ rfl ?_
 rintro m5 e5 w16 ⟨i5,hF,rfl,h⟩
 rcases m5 with _|m5
 ·cases hF
 refine X0 8 rfl (qh rfl hF ?_ ?_)<;>intro hF
 ·refine X0 7 rfl ?_
  obtain ⟨y11,hy11,hF,he11,b13,_,q11,cs13,hp11,hq11,rfl,hc19⟩:=(h.sl 0 rfl).1.ix hF
  refine zx hp11 hq11 ⟨he11.1,qJ he11.2.1 (h.sl 0 rfl).2⟩ rfl (zc 0 hc19 rfl (X0 2 rfl (qh rfl hF ?_ ?_)))<;>intro hF
  ·refine X0 4 rfl ?_
   obtain rfl:=qa hF;replace hF:=hK5
   exact rb h hF rfl
  exact X0 7 rfl (rK ⟨_,hF,rfl,h⟩ rfl)
 refine qr rfl ?_
 obtain rfl:=qa hF;replace hF:=hK5
 exact X0 4 rfl (rb h hF rfl)
def qec (a_0:qw):Nat→Int→Option (Flow Bool Int)
 | 0,_=>none
 | n+1,i2 =>
  bif decide (i2<(a_0.Bg.length:Int)) then
   (idx a_0.Bg i2).bind fun y7 =>
   (qX n y7 0 (W64 ((a_0.Ai.length:Int)-1))).bind fun r5 =>
   bif (!r5) then some (.ret false) else
   qec a_0 n (W64 (i2+1))
  else
   some (.nxt i2)
def qbL (a_0:qw):Nat→Int→Option (Flow Bool Int)
 | 0,_=>none
 | n+1,i1 =>
  bif decide (i1<(a_0.Ai.length:Int)) then
   (
    (idx a_0.Bk i1).bind fun y5 =>
    (qX n y5 0 500).bind fun r3 =>
    bif (!r3) then some true else
    (idx a_0.Bn i1).bind fun y6 =>
    (qX n y6 0 1000).bind fun r4 =>
    some (!r4)).bind fun b2 =>
   bif b2 then some (.ret false) else
   bif (i1==0) then
    (idx a_0.Ai i1).bind fun y1 =>
    bif (y1 != (-1)) then some (.ret false) else
    (idx a_0.Bn i1).bind fun y2 =>
    bif (y2 != 0) then some (.ret false) else
    bif decide (i1 > 0) then
     (idx a_0.Ai i1).bind fun y3 =>
     (qX n y3 0 (W64 (i1-1))).bind fun r1 =>
     bif (!r1) then some (.ret false) else
     qbL a_0 n (W64 (i1+1))
    else
     qbL a_0 n (W64 (i1+1))
   else
    bif decide (i1 > 0) then
     (idx a_0.Ai i1).bind fun y4 =>
     (qX n y4 0 (W64 (i1-1))).bind fun r2 =>
     bif (!r2) then some (.ret false) else
     qbL a_0 n (W64 (i1+1))
    else
     qbL a_0 n (W64 (i1+1))
  else
   some (.nxt i1)
def qiE (n:Nat) (a_0:qw) (a_1:Int):Option Bool :=
 (
  bif decide ((a_0.Ai.length:Int)<1) then some true else
  bif decide ((a_0.Ai.length:Int) > 8) then some true else
  bif ((a_0.Bn.length:Int) != (a_0.Ai.length:Int)) then some true else
  bif ((a_0.Bk.length:Int) != (a_0.Ai.length:Int)) then some true else
  some ((a_0.Bg.length:Int) != a_1)).bind fun b1 =>
 bif b1 then some false else
 (qbL a_0 n 0).bind fun o=>match o with
 | .ret r=>some r
 | .nxt _ =>
  (qec a_0 n 0).bind fun o=>match o with
  | .ret r=>some r
  | .nxt _ =>
   some true
theorem qna {a_0:qw} {a_1:Int} (ha1:GoT.R w (old w) a_0 cs1) {r:Bool} (hF:qiE n a_0 a_1=some r):RetV Tryz.prog 145 [GoT.v qw cs1,.int .i64 a_1] w r:=by
 obtain ⟨p1,k1,p2,k2,p3,k3,p4,k4,rfl,s1,s2,s3,s4⟩:=qa0 ha1
 refine zV 108 Tryz.func145 rfl fun h=>zSR (qu h rfl rfl fun w1 bb1 h=>X1 11 0 h rfl ?_)
 obtain ⟨KF2,hKF2,o4,hF,hK4⟩:=bindE hF
 refine qcx (fun e w'=>∃ (b1:Bool),KF2 b1=some r∧e=[(2,.pointer (some ⟨bb1,0,none⟩)),(5,.int .i64 (a_0.Ai.length:Int)),(37,.bool b1)]∧SH w w' [Ch.box bb1 (qgE a_0 p1 p2 p3 p4 k1 k2 k3 k4) 210]) ?_ ?_
 ·refine X0 4 rfl (qg (t:=13) hF rfl ?_ ?_)<;>intro hF
  ·refine X0 25 rfl ?_
   obtain rfl:=qa hF
   exact rG ⟨_,hK4,rfl,h⟩ rfl
  refine X0 6 rfl (qg (t:=17) hF rfl ?_ ?_)<;>intro hF
  ·refine X0 21 rfl ?_
   obtain rfl:=qa hF
   exact rG ⟨_,hK4,rfl,h⟩ rfl
  refine X1 12 0 h rfl (qg (t:=24) hF rfl ?_ ?_)<;>intro hF
  ·refine X0 14 rfl ?_
   obtain rfl:=qa hF
   exact rG ⟨_,hK4,rfl,h⟩ rfl
  refine X1 12 0 h rfl (qg (t:=31) hF rfl ?_ ?_)<;>intro hF
  ·refine X0 7 rfl ?_
   obtain rfl:=qa hF
   exact rG ⟨_,hK4,rfl,h⟩ rfl
  refine X1 12 0 h rfl ?_
  obtain rfl:=qa hF
  exact rG ⟨_,hK4,rfl,h⟩ rfl
 rintro e4 w10 ⟨b1,hF,rfl,h⟩
 subst hKF2
 refine qh rfl hF ?_ ?_<;>intro hF
 ·exact X0 4 rfl (rb h hF rfl)
 refine X0 6 rfl ?_
 obtain ⟨o1,hF,hK1⟩:=qf hF
 refine ql (rL (fun m e w'=>∃ (i1:Int),qbL a_0 m i1=some o1∧e=[(2,.pointer (some ⟨bb1,0,none⟩)),(5,.int .i64 (a_0.Ai.length:Int)),(6,.int .i64 i1)]∧SH w w' [Ch.box bb1 (qgE a_0 p1 p2 p3 p4 k1 k2 k3 k4) 210]) n ⟨_,hF,rfl,h⟩ rfl ?_)
 rintro m1 e1 w2 ⟨i1,hF,rfl,h⟩
 rcases m1 with _|m1
 ·cases hF
 refine X0 7 rfl (qh rfl hF ?_ ?_)<;>intro hF
 ·refine X0 5 rfl ?_
  obtain ⟨KF1,hKF1,o2,hF,hK2⟩:=bindE hF
  refine qcx (fun e w'=>∃ (b2:Bool),KF1 b2=some o1∧e=[(2,.pointer (some ⟨bb1,0,none⟩)),(5,.int .i64 (a_0.Ai.length:Int)),(6,.int .i64 i1),(58,.bool b2)]∧SH w w' [Ch.box bb1 (qgE a_0 p1 p2 p3 p4 k1 k2 k3 k4) 210]) ?_ ?_
  ·refine X1 4 0 h rfl ?_
   obtain ⟨y5,hy5,hF,he5,b7,_,q5,cs6,hp5,hq5,rfl,hc10⟩:=s3.ix hF
   refine zxe hp5 hq5 he5 rfl (zc 0 (hc10.below h.below) rfl (zcB h hF qR rfl fun r3 w5 h hF=>zp2 rfl (qg (t:=50) hF rfl ?_ ?_)))<;>intro hF
   ·refine X0 9 rfl ?_
    obtain rfl:=qa hF
    exact rG ⟨_,hK2,rfl,h⟩ rfl
   refine X1 7 0 h rfl ?_
   obtain ⟨y6,hy6,hF,he6,b8,_,q6,cs7,hp6,hq6,rfl,hc11⟩:=s2.ix hF
   refine zxe hp6 hq6 he6 rfl (X0 1 rfl (zc 0 (hc11.below h.below) rfl (X0 1 rfl (zcB h hF qR rfl fun r4 w6 h hF=>X0 4 rfl ?_))))
   obtain rfl:=qa hF
   exact rG ⟨_,hK2,rfl,h⟩ rfl
  rintro e2 w7 ⟨b2,hF,rfl,h⟩
  subst hKF1
  refine qh rfl hF ?_ ?_<;>intro hF
  ·refine X0 4 rfl ?_
   obtain rfl:=qa hF;replace hF:=hK1
   exact rb h hF rfl
  refine X0 6 rfl (qg (t:=61) hF rfl ?_ ?_)<;>intro hF
  ·refine X1 7 0 h rfl ?_
   obtain ⟨y1,hy1,hF,he1,b3,_,q1,cs2,hp1,hq1,rfl,hc4⟩:=s1.ix hF
   refine zxe hp1 hq1 he1 rfl (X0 1 rfl (zc 0 (hc4.below h.below) rfl (X0 4 rfl (qg (t:=68) hF rfl ?_ ?_))))<;>intro hF
   ·refine X0 25 rfl (qb2 rfl rfl (X0 4 rfl ?_))
    obtain rfl:=qa hF;replace hF:=hK1
    exact rb h hF rfl
   refine X1 7 0 h rfl ?_
   obtain ⟨y2,hy2,hF,he2,b4,_,q2,cs3,hp2,hq2,rfl,hc5⟩:=s2.ix hF
   refine zxe hp2 hq2 he2 rfl (X0 1 rfl (zc 0 (hc5.below h.below) rfl (X0 6 rfl (qg (t:=77) hF rfl ?_ ?_))))<;>intro hF
   ·refine X0 15 rfl (qb2 rfl rfl (X0 4 rfl ?_))
    obtain rfl:=qa hF;replace hF:=hK1
    exact rb h hF rfl
   refine X0 6 rfl (qg (t:=80) hF rfl ?_ ?_)<;>intro hF
   ·refine X1 7 0 h rfl ?_
    obtain ⟨y3,hy3,hF,he3,b5,_,q3,cs4,hp3,hq3,rfl,hc6⟩:=s1.ix hF
    refine zxe hp3 hq3 he3 rfl (X0 1 rfl (zc 0 (hc6.below h.below) rfl (X0 5 rfl (zcB h hF qR rfl fun r1 w3 h hF=>X0 6 rfl (qh rfl hF ?_ ?_)))))<;>intro hF
    ·refine X0 4 rfl ?_
     obtain rfl:=qa hF;replace hF:=hK1
     exact rb h hF rfl
    exact X0 7 rfl (rK ⟨_,hF,rfl,h⟩ rfl)
   exact X0 13 rfl (qcO rfl rfl (X0 7 rfl (rK ⟨_,hF,rfl,h⟩ rfl)))
  refine X0 22 rfl (qg (t:=80) hF rfl ?_ ?_)<;>intro hF
  ·refine X1 7 0 h rfl ?_
   obtain ⟨y4,hy4,hF,he4,b6,_,q4,cs5,hp4,hq4,rfl,hc8⟩:=s1.ix hF
   refine zxe hp4 hq4 he4 rfl (X0 1 rfl (zc 0 (hc8.below h.below) rfl (X0 5 rfl (zcB h hF qR rfl fun r2 w4 h hF=>X0 6 rfl (qh rfl hF ?_ ?_)))))<;>intro hF
   ·refine X0 4 rfl ?_
    obtain rfl:=qa hF;replace hF:=hK1
    exact rb h hF rfl
   exact X0 7 rfl (rK ⟨_,hF,rfl,h⟩ rfl)
  exact X0 13 rfl (qcO rfl rfl (X0 7 rfl (rK ⟨_,hF,rfl,h⟩ rfl)))
 refine qr rfl ?_
 obtain rfl:=qa hF;replace hF:=hK1
 refine X0 5 rfl ?_
 obtain ⟨o3,hF,hK3⟩:=qf hF
 refine ql (rL (fun m e w'=>∃ (i2:Int),qec a_0 m i2=some o3∧e=[(2,.pointer (some ⟨bb1,0,none⟩)),(5,.int .i64 (a_0.Ai.length:Int)),(7,.int .i64 i2)]∧SH w w' [Ch.box bb1 (qgE a_0 p1 p2 p3 p4 k1 k2 k3 k4) 210]) n ⟨_,hF,rfl,h⟩ rfl ?_)
 rintro m2 e3 w8 ⟨i2,hF,rfl,h⟩
 rcases m2 with _|m2
 ·cases hF
 refine X1 9 0 h rfl (qh rfl hF ?_ ?_)<;>intro hF
 ·refine X1 8 0 h rfl ?_
  obtain ⟨y7,hy7,hF,he7,b9,_,q7,cs8,hp7,hq7,rfl,hc13⟩:=s4.ix hF
  refine zxe hp7 hq7 he7 rfl (zc 0 (hc13.below h.below) rfl (zp2 rfl (zcB h hF qR rfl fun r5 w9 h hF=>X0 2 rfl (qh rfl hF ?_ ?_))))<;>intro hF
  ·refine X0 4 rfl ?_
   obtain rfl:=qa hF;replace hF:=hK3
   exact rb h hF rfl
  exact X0 7 rfl (rK ⟨_,hF,rfl,h⟩ rfl)
 refine qr rfl ?_
 obtain rfl:=qa hF;replace hF:=hK3
 exact X0 4 rfl (rb h hF rfl)
def qbK (i1:Int) (y1:qd):Nat→(List Tl05Place)→Int→Option ((List Tl05Place) × Int)
 | 0,_,_=>none
 | n+1,x2,i2 =>
  bif decide (i2<(y1.Ah.length:Int)) then
   (idx y1.Ah i2).bind fun y2 =>
   (appS x2 ([(⟨i1,i2,y2,(i2==(W64 ((y1.Ah.length:Int)-1)))⟩:Tl05Place)]:List Tl05Place)).bind fun x3 =>
   qbK i1 y1 n x3 (W64 (i2+1))
  else
   some (x2,i2)
def qbN (a_0:qc):Nat→(List Tl05Place)→Int→Option ((List Tl05Place) × Int)
 | 0,_,_=>none
 | n+1,x4,i3 =>
  bif decide (i3<(a_0.Af.length:Int)) then
   (idx a_0.Af i3).bind fun y3 =>
   (idx a_0.Af i3).bind fun y4 =>
   (appS x4 ([(⟨(-1),i3,y3.Bp,(y4.Bm==1)⟩:Tl05Place)]:List Tl05Place)).bind fun x5 =>
   qbN a_0 n x5 (W64 (i3+1))
  else
   some (x4,i3)
def qbH (a_0:qc):Nat→(List Tl05Place)→Int→Option ((List Tl05Place) × Int)
 | 0,_,_=>none
 | n+1,x1,i1 =>
  bif decide (i1<(a_0.Aa.length:Int)) then
   (idx a_0.Aa i1).bind fun y1 =>
   (qbK i1 y1 n x1 0).bind fun o=>match o with
   | (x2,_) =>
    qbH a_0 n x2 (W64 (i1+1))
  else
   some (x1,i1)
def qd2 (n:Nat) (a_0:qc):Option (List Tl05Place) :=
 (qbH a_0 n ([]:List Tl05Place) 0).bind fun o=>match o with
 | (x1,_) =>
  (qbN a_0 n x1 0).bind fun o=>match o with
  | (x4,_) =>
   some x4
theorem qgh {a_0:qc} (ha1:GoT.R w (old w) a_0 cs1) {r:(List Tl05Place)} (hF:qd2 n a_0=some r):RetV Tryz.prog 171 [GoT.v qc cs1] w r:=by
 obtain ⟨p1,k1,p2,k2,p3,k3,rfl,s1,s2,s3⟩:=qad ha1
 refine zV 69 Tryz.func171 rfl fun h=>zSR (qu h rfl rfl fun w1 bb1 h=>X0 4 rfl (qab qb [] _ ([]:List Tl05Place) h rfl rfl rfl rfl rfl rfl rfl rfl rfl trivial rfl fun w2 p4 S1 h=>X0 7 rfl ?_))
 obtain ⟨o1,hF,hK1⟩:=qf hF
 refine ql (rL (fun m e w'=>∃ (S2:Nat→Prop) (p5:Option Addr) (ln1:Nat) (k4:Nat) (x1:(List Tl05Place)) (i1:Int),qbH a_0 m x1 i1=some o1∧e=[(1,.pointer (some ⟨bb1,0,none⟩)),(3,.slice p5 ln1 k4),(4,.int .i64 i1)]∧SH w w' [Ch.own S2 (x1:List Tl05Place) [.slice p5 ln1 k4],Ch.box bb1 (qaN a_0 p1 p2 p3 k1 k2 k3) 50]) n ⟨_,_,_,_,_,_,hF,rfl,h⟩ rfl ?_)
 rintro m1 e1 w3 ⟨S2,p5,ln1,k4,x1,i1,hF,rfl,h⟩
 obtain rfl:=(h.sl 0 rfl).2
 rcases m1 with _|m1
 ·cases hF
 refine X1 9 1 h rfl (qh rfl hF ?_ ?_)<;>intro hF
 ·refine X1 8 1 h rfl ?_
  obtain ⟨y1,hy1,hF,he1,b1,_,q1,cs2,hp1,hq1,hr1,hc2⟩:=s1.ix hF
  obtain ⟨p6,k5,rfl,s4⟩:=qM hr1
  refine zxe hp1 hq1 he1 rfl (zp1 rfl (zc 2 (hc2.below h.below) rfl (X0 6 rfl ?_)))
  obtain ⟨o2,hF,hK2⟩:=qf hF
  refine ql (rL (fun m e w'=>∃ (S3:Nat→Prop) (p7:Option Addr) (ln2:Nat) (k6:Nat) (x2:(List Tl05Place)) (i2:Int),qbK i1 y1 m x2 i2=some o2∧e=[(1,.pointer (some ⟨bb1,0,none⟩)),(3,.slice p7 ln2 k6),(4,.int .i64 i1),(5,.slice p6 y1.Ah.length k5),(6,.int .i64 i2)]∧SH w w' [Ch.own S3 (x2:List Tl05Place) [.slice p7 ln2 k6],Ch.box bb1 (qaN a_0 p1 p2 p3 k1 k2 k3) 50]) m1 ⟨_,_,_,_,_,_,hF,rfl,h⟩ rfl ?_)
  rintro m2 e2 w4 ⟨S3,p7,ln2,k6,x2,i2,hF,rfl,h⟩
  obtain rfl:=(h.sl 0 rfl).2
  rcases m2 with _|m2
  ·cases hF
  refine X0 8 rfl (qh rfl hF ?_ ?_)<;>intro hF
  ·refine X0 9 rfl ?_
   obtain ⟨y2,hy2,hF,he2,b2,_,q2,cs3,hp2,hq2,rfl,hc4⟩:=s4.ix hF
   refine zxe hp2 hq2 he2 rfl (zc 0 (hc4.below h.below) rfl (zp5 rfl (r_v (qdO qb [0,1,2,3] [.tmp 29,.tmp 30,.tmp 34,.tmp 39] rfl rfl rfl rfl rfl rfl rfl rfl) rfl (qab qb [.tmp 40] _ ([(⟨i1,i2,y2,(i2==(W64 ((y1.Ah.length:Int)-1)))⟩:Tl05Place)]:List Tl05Place) h rfl rfl rfl rfl rfl rfl rfl rfl rfl ⟨(qkI (⟨i1,i2,y2,(i2==(W64 ((y1.Ah.length:Int)-1)))⟩:Tl05Place)),trivial⟩ rfl fun w5 p8 S4 h=>?_))))
   obtain ⟨x3,hx1,hF⟩:=qf hF
   obtain ⟨g1,hx1⟩:=qaY hx1
   refine qd1 qb 1 h rfl (h.sl 0 rfl).1 (h.sl 0 rfl).2 rfl rfl rfl rfl rfl rfl rfl rfl rfl g1 hx1 rfl fun w6 p9 k7 S5 h=>X0 8 rfl ?_
   replace h:=h.pick [1,2] rfl
   exact rK ⟨_,_,_,_,_,_,hF,rfl,h⟩ rfl
  refine qr rfl ?_
  obtain rfl:=qa hF;replace hF:=hK2
  exact X0 6 rfl (rK ⟨_,_,_,_,_,_,hF,rfl,h⟩ rfl)
 refine qr rfl ?_
 obtain rfl:=qa hF;replace hF:=hK1
 refine X0 5 rfl ?_
 obtain ⟨o3,hF,hK3⟩:=qf hF
 refine ql (rL (fun m e w'=>∃ (S6:Nat→Prop) (p10:Option Addr) (ln3:Nat) (k8:Nat) (x4:(List Tl05Place)) (i3:Int),qbN a_0 m x4 i3=some o3∧e=[(1,.pointer (some ⟨bb1,0,none⟩)),(3,.slice p10 ln3 k8),(7,.int .i64 i3)]∧SH w w' [Ch.own S6 (x4:List Tl05Place) [.slice p10 ln3 k8],Ch.box bb1 (qaN a_0 p1 p2 p3 k1 k2 k3) 50]) n ⟨_,_,_,_,_,_,hF,rfl,h⟩ rfl ?_)
 rintro m3 e3 w7 ⟨S6,p10,ln3,k8,x4,i3,hF,rfl,h⟩
 obtain rfl:=(h.sl 0 rfl).2
 rcases m3 with _|m3
 ·cases hF
 refine X1 9 1 h rfl (qh rfl hF ?_ ?_)<;>intro hF
 ·refine zKSB (rA [] [1] h rfl fun w8 h=>M1 31 [0,1,2,3,4] 0 (h.pick [1] rfl) rfl ?_)
  obtain ⟨y3,hy3,hF,he3,b3,_,q3,cs4,hp3,hq3,hr3,hc6⟩:=s3.ix hF
  obtain rfl:=qak hr3
  refine Ae 5 63 hp3 hq3 he3 (h.pick [1] rfl) rfl (M0 127 [6] (h.pick [1] rfl) rfl (Al 7 255 2 hc6 (h.pick [1] rfl) rfl (M1 2047 [8,9,10] 0 (h.pick [1] rfl) rfl ?_)))
  obtain ⟨y4,hy4,hF,he4,b4,_,q4,cs5,hp4,hq4,hr4,hc7⟩:=s3.ix hF
  obtain rfl:=qak hr4
  refine Ae 11 4095 hp4 hq4 he4 (h.pick [1] rfl) rfl (M0 8191 [12] (h.pick [1] rfl) rfl (Al 13 16383 1 hc7 (h.pick [1] rfl) rfl (M0 32767 [14] (h.pick [1] rfl) rfl (Aw 15 65535 (fun w' hw=>qdO qb [0,1,2,3] [.const (.int .i64 (-1)),.tmp 51,.tmp 57,.tmp 64] rfl rfl rfl rfl rfl rfl rfl rfl) (h.pick [1] rfl) rfl ?_))))
  refine Ao 16 131071 rfl (qab qb [.tmp 65] _ ([(⟨(-1),i3,y3.Bp,(y4.Bm==1)⟩:Tl05Place)]:List Tl05Place) h rfl rfl rfl rfl rfl rfl rfl rfl rfl ⟨(qkI (⟨(-1),i3,y3.Bp,(y4.Bm==1)⟩:Tl05Place)),trivial⟩ rfl fun w9 p11 S7 h=>Ag (h.pick [2] rfl) (Ao 17 262143 rfl ?_))
  obtain ⟨x5,hx2,hF⟩:=qf hF
  obtain ⟨g2,hx2⟩:=qaY hx2
  refine qd1 qb 1 h rfl (h.sl 0 rfl).1 (h.sl 0 rfl).2 rfl rfl rfl rfl rfl rfl rfl rfl rfl g2 hx2 rfl fun w10 p12 k9 S8 h=>G0 524287 [18] (h.pick [2] rfl) rfl (Ad (X0 6 rfl ?_))
  replace h:=h.pick [1,2] rfl
  exact rK ⟨_,_,_,_,_,_,hF,rfl,h⟩ rfl
 refine qr rfl ?_
 obtain rfl:=qa hF;replace hF:=hK3
 refine X0 5 rfl ?_
 obtain rfl:=qa hF
 exact rO 0 h rfl ⟨rfl,trivial⟩
def qbD (net:Int) (r1:(List Tl05Place)):Nat→(List Int)→Int→Option ((List Int) × Int)
 | 0,_,_=>none
 | n+1,x1,i1 =>
  bif decide (i1<(r1.length:Int)) then
   (
    (idx r1 i1).bind fun y1 =>
    bif (y1.net==net) then
     (idx r1 i1).bind fun y2 =>
     some (!y2.drives)
    else
     some false).bind fun b1 =>
   bif b1 then
    (appS x1 ([i1]:List Int)).bind fun x2 =>
    qbD net r1 n x2 (W64 (i1+1))
   else
    qbD net r1 n x1 (W64 (i1+1))
  else
   some (x1,i1)
def qg7 (n:Nat) (d:qc) (net:Int):Option (List Int) :=
 (qd2 n d).bind fun r1 =>
 (qbD net r1 n ([]:List Int) 0).bind fun o=>match o with
 | (x1,_) =>
  some x1
theorem qlV {d:qc} {net:Int} (ha1:GoT.R w (old w) d cs1) {r:(List Int)} (hF:qg7 n d net=some r):RetV Tryz.prog 146 [GoT.v qc cs1,.int .i64 net] w r:=by
 obtain ⟨p1,k1,p2,k2,p3,k3,rfl,s1,s2,s3⟩:=qad ha1
 refine zV 37 Tryz.func146 rfl fun h=>zSR (qu h rfl rfl fun w1 bb1 h=>X0 4 rfl (qab qb [] _ ([]:List Int) h rfl rfl rfl rfl rfl rfl rfl rfl rfl trivial rfl fun w2 p4 S1 h=>X1 5 1 h rfl (zcL h hF (qgh (h.old ha1)) rfl fun r1 w3 S2 p5 k4 h hF=>X0 7 rfl ?_)))
 obtain ⟨o1,hF,hK1⟩:=qf hF
 refine ql ?_
 replace h:=h.pick [0,1] rfl
 refine rL (fun m e w'=>∃ (S3:Nat→Prop) (p6:Option Addr) (ln1:Nat) (k5:Nat) (x1:(List Int)) (i1:Int),qbD net r1 m x1 i1=some o1∧e=[(1,.int .i64 net),(5,.slice p6 ln1 k5),(6,.slice p5 r1.length k4),(7,.int .i64 i1)]∧SH w w' [Ch.own S2 (r1:List Tl05Place) [.slice p5 r1.length k4],Ch.own S3 (x1:List Int) [.slice p6 ln1 k5]]) n ⟨_,_,_,_,_,_,hF,rfl,h⟩ rfl ?_
 rintro m1 e1 w4 ⟨S3,p6,ln1,k5,x1,i1,hF,rfl,h⟩
 obtain rfl:=(h.sl 1 rfl).2
 rcases m1 with _|m1
 ·cases hF
 refine X0 8 rfl (qh rfl hF ?_ ?_)<;>intro hF
 ·refine X0 4 rfl ?_
  obtain ⟨KF1,hKF1,o2,hF,hK2⟩:=bindE hF
  refine qcx (fun e w'=>∃ (b1:Bool),KF1 b1=some o1∧e=[(1,.int .i64 net),(5,.slice p6 x1.length k5),(6,.slice p5 r1.length k4),(7,.int .i64 i1),(31,.bool b1)]∧SH w w' [Ch.own S2 (r1:List Tl05Place) [.slice p5 r1.length k4],Ch.own S3 (x1:List Int) [.slice p6 x1.length k5]]) ?_ ?_
  ·refine X0 3 rfl ?_
   obtain ⟨y1,hy1,hF,he1,b2,_,q1,cs2,hp1,hq1,hr2,hc3⟩:=(h.sl 0 rfl).1.ix hF
   obtain rfl:=qgj hr2
   refine zx hp1 hq1 ⟨he1.1,qJ he1.2.1 (h.sl 0 rfl).2⟩ rfl (zp1 rfl (zc 2 hc3 rfl (zp3 rfl (qg (t:=24) hF rfl ?_ ?_))))<;>intro hF
   ·refine X0 5 rfl ?_
    obtain ⟨y2,hy2,hF,he2,b3,_,q2,cs3,hp2,hq2,hr3,hc4⟩:=(h.sl 0 rfl).1.ix hF
    obtain rfl:=qgj hr3
    refine zx hp2 hq2 ⟨he2.1,qJ he2.2.1 (h.sl 0 rfl).2⟩ rfl (X0 3 rfl (zc 3 hc4 rfl (X0 4 rfl ?_)))
    obtain rfl:=qa hF
    exact rG ⟨_,hK2,rfl,h⟩ rfl
   refine X0 8 rfl ?_
   obtain rfl:=qa hF
   exact rG ⟨_,hK2,rfl,h⟩ rfl
  rintro e2 w7 ⟨b1,hF,rfl,h⟩
  subst hKF1
  refine qh rfl hF ?_ ?_<;>intro hF
  ·refine X0 3 rfl (qab qb [.tmp 33] _ ([i1]:List Int) h rfl rfl rfl rfl rfl rfl rfl rfl rfl ⟨rfl,trivial⟩ rfl fun w5 p7 S4 h=>?_)
   obtain ⟨x2,hx1,hF⟩:=qf hF
   obtain ⟨g1,hx1⟩:=qaY hx1
   refine qd1 qb 2 h rfl (h.sl 0 rfl).1 (h.sl 0 rfl).2 rfl rfl rfl rfl rfl rfl rfl rfl rfl g1 hx1 rfl fun w6 p8 k6 S5 h=>X0 8 rfl ?_
   replace h:=h.pick [1,2] rfl
   exact rK ⟨_,_,_,_,_,_,hF,rfl,h⟩ rfl
  exact X0 7 rfl (rK ⟨_,_,_,_,_,_,hF,rfl,h⟩ rfl)
 refine qr rfl ?_
 obtain rfl:=qa hF;replace hF:=hK1
 refine X0 5 rfl ?_
 obtain rfl:=qa hF
 exact rO 1 h rfl ⟨rfl,trivial⟩
def qdw (b:qk):Nat→Int→Option (Flow Bool Int)
 | 0,_=>none
 | n+1,i1 =>
  bif decide (i1<(b.Ac.length:Int)) then
   (idx b.Ac i1).bind fun y1 =>
   (qg7 n (⟨b.Ab.Aa,b.Ab.Ah,b.Ab.Af⟩:qc) i1).bind fun r1 =>
   (qiE n y1 (r1.length:Int)).bind fun r2 =>
   bif (!r2) then some (.ret false) else
   qdw b n (W64 (i1+1))
  else
   some (.nxt i1)
def qhE (n:Nat) (b:qk):Option Bool :=
 (
  (qgX n (⟨b.Au.Ak⟩:qn) (⟨b.Ab.Aa,b.Ab.Ah,b.Ab.Af⟩:qc)).bind fun r3 =>
  bif (!r3) then some true else
  some ((b.Ac.length:Int) != (b.Ab.Ah.length:Int))).bind fun b1 =>
 bif b1 then some false else
 (qdw b n 0).bind fun o=>match o with
 | .ret r=>some r
 | .nxt _ =>
  some true
theorem qmx {b:qk} (ha1:GoT.R w (old w) b cs1) {r:Bool} (hF:qhE n b=some r):RetV Tryz.prog 69 [GoT.v qk cs1] w r:=by
 obtain ⟨p1,k1,p2,k2,p3,k3,p4,k4,p5,k5,rfl,s1,s2,s3,s4,s5⟩:=qV ha1
 refine zV 39 Tryz.func69 rfl fun h=>zSR (qu h rfl rfl fun w1 bb1 h=>X0 4 rfl ?_)
 obtain ⟨KF1,hKF1,o2,hF,hK2⟩:=bindE hF
 refine qcx (fun e w'=>∃ (b1:Bool),KF1 b1=some r∧e=[(1,.pointer (some ⟨bb1,0,none⟩)),(19,.bool b1)]∧SH w w' [Ch.box bb1 (qaC b p1 p2 p3 p4 p5 k1 k2 k3 k4 k5) 53]) ?_ ?_
 ·refine X2 5 0 0 h rfl (zcB h hF (qlK (qdD _ (h.oldS s1)) (qaG _ (h.oldS s2) (h.oldS s3) (h.oldS s4))) rfl fun r3 w6 h hF=>zp2 rfl (qg (t:=10) hF rfl ?_ ?_))<;>intro hF
  ·refine X0 10 rfl ?_
   obtain rfl:=qa hF
   exact rG ⟨_,hK2,rfl,h⟩ rfl
  refine X2 18 0 0 h rfl ?_
  obtain rfl:=qa hF
  exact rG ⟨_,hK2,rfl,h⟩ rfl
 rintro e2 w7 ⟨b1,hF,rfl,h⟩
 subst hKF1
 refine qh rfl hF ?_ ?_<;>intro hF
 ·exact X0 4 rfl (rb h hF rfl)
 refine X0 6 rfl ?_
 obtain ⟨o1,hF,hK1⟩:=qf hF
 refine ql (rL (fun m e w'=>∃ (i1:Int),qdw b m i1=some o1∧e=[(1,.pointer (some ⟨bb1,0,none⟩)),(3,.int .i64 i1)]∧SH w w' [Ch.box bb1 (qaC b p1 p2 p3 p4 p5 k1 k2 k3 k4 k5) 53]) n ⟨_,hF,rfl,h⟩ rfl ?_)
 rintro m1 e1 w2 ⟨i1,hF,rfl,h⟩
 rcases m1 with _|m1
 ·cases hF
 refine X1 9 0 h rfl (qh rfl hF ?_ ?_)<;>intro hF
 ·refine X0 4 rfl (rA [] [0] h rfl fun w3 h=>M1 7 [0,1,2] 0 (h.pick [0] rfl) rfl ?_)
  obtain ⟨y1,hy1,hF,he1,b2,_,q1,cs2,hp1,hq1,hr1,hc3⟩:=s5.ix hF
  obtain ⟨p6,k6,p7,k7,p8,k8,p9,k9,rfl,s6,s7,s8,s9⟩:=qa0 hr1
  refine Ae 3 15 hp1 hq1 he1 (h.pick [0] rfl) rfl (Al 4 31 0 hc3 (h.pick [0] rfl) rfl (M1 255 [5,6,7] 0 (h.pick [0] rfl) rfl (Ao 8 511 rfl (zcL h hF (qlV (qaG _ (h.oldS s2) (h.oldS s3) (h.oldS s4))) rfl fun r1 w4 S1 p10 k10 h hF=>G0 1023 [9] (h.pick [1] rfl) rfl (Ao 10 2047 rfl (zcB h hF (qna (qh2 y1 (h.oldS s6) (h.oldS s7) (h.oldS s8) (h.oldS s9))) rfl fun r2 w5 h hF=>G0 4095 [11] (h.pick [1] rfl) rfl (Ad (qh rfl hF ?_ ?_))))))))<;>intro hF
  ·refine X0 4 rfl ?_
   obtain rfl:=qa hF;replace hF:=hK1
   exact rb h hF rfl
  refine X0 7 rfl ?_
  replace h:=h.pick [1] rfl
  exact rK ⟨_,hF,rfl,h⟩ rfl
 refine qr rfl ?_
 obtain rfl:=qa hF;replace hF:=hK1
 exact X0 4 rfl (rb h hF rfl)
def qam (_:Nat) (x:Int) (low:Int) (high:Int):Option Bool :=
 bif decide (x ≥ low) then some (decide (x≤high)) else
 some false
theorem qac {x:Int} {low:Int} {high:Int}  {r:Bool} (hF:qam n x low high=some r):RetV Tryz.prog 103 [.int .i64 x,.int .i64 low,.int .i64 high] w r:=by
 refine zV 15 Tryz.func103 rfl fun h=>X0 10 rfl (qg (t:=10) hF rfl ?_ ?_)<;>intro hF
 ·exact X0 9 rfl (rb h hF rfl)
 exact X0 6 rfl (rb h hF rfl)
def qf3 (_:Nat) (list:(List ByteArray)):Option Int :=
 some (list.length:Int)
theorem qjI {list:(List ByteArray)} (ha1:GoT.R w (old w) list cs1) {r:Int} (hF:qf3 n list=some r):RetV Tryz.prog 205 [GoT.v (List ByteArray) cs1] w r:=by
 obtain ⟨p1,k1,rfl,s1⟩:=ha1
 exact zV 5 Tryz.func205 rfl fun h=>X0 10 rfl (ri h hF rfl)
def qbm (n:Nat) (d:qc) (net:Int):Option Bool :=
 (qf3 n d.Ah).bind fun r1 =>
 (qam n net 0 (W64 (r1-1))).bind fun r2 =>
 some r2
theorem qch {d:qc} {net:Int} (ha1:GoT.R w (old w) d cs1) {r:Bool} (hF:qbm n d net=some r):RetV Tryz.prog 129 [GoT.v qc cs1,.int .i64 net] w r:=by
 obtain ⟨p1,k1,p2,k2,p3,k3,rfl,s1,s2,s3⟩:=qad ha1
 exact zV 11 Tryz.func129 rfl fun h=>zSR (qu h rfl rfl fun w1 bb1 h=>X1 7 0 h rfl (zcI h hF (qjI ⟨_,_,rfl,(h.oldS s2)⟩) rfl fun r1 w2 h hF=>zp1 rfl (zcB h hF qac rfl fun r2 w3 h hF=>X0 2 rfl (rb h hF rfl))))
def qgd (_:Nat) (s cutset:ByteArray):Option ByteArray :=
 if s.size≤9223372036854775807∧cutset.size<4294967281∧cutset.data.toList.all (fun b=>decide (b.toNat<128))=true then some ⟨(Lib.trimS s.data.toList cutset.data.toList).toArray⟩ else none
theorem qmF {s cutset:ByteArray} {r:ByteArray} (hF:qgd n s cutset=some r):RetV Tryz.prog 233 [.string s,.string cutset] w r:=by
 unfold qgd at hF
 split at hF
 ·rename_i hh
  obtain rfl:=qa hF
  refine (Tryz.strings_Trim_any s cutset w hh.1 hh.2.1 hh.2.2).mono ?_
  rintro e w' ⟨rfl,hB⟩
  exact ⟨_,rfl,hB,[.string _],rfl,qqP _ _⟩
 cases hF
def qeZ (_:Nat) (s:ByteArray) (c:(IntK .u8)):Option Int :=
 some (Lib.indexByte s.data.toList c.val.toNat.toUInt8)
theorem qjV {s:ByteArray} {c:(IntK .u8)} {r:Int} (hF:qeZ n s c=some r):RetV Tryz.prog 234 [.string s,.int .u8 c.val] w r:=by
 obtain rfl:=qa hF
 refine (Tryz.strings_IndexByte s c.val w).mono ?_
 rintro e w' ⟨rfl,rfl⟩
 exact ⟨_,rfl,Below.refl _ _,[.int .i64 _],rfl,qsG _ _⟩
def qhd (n:Nat) (s:ByteArray):Option Bool :=
 (qam n (s.size:Int) 1 8).bind fun r1 =>
 bif r1 then
  (qgd n s (⟨#[97,98,99,100,101,102,103,104,105,106,107,108,109,110,111,112,113,114,115,116,117,118,119,120,121,122,48,49,50,51,52,53,54,55,56,57]⟩:ByteArray)).bind fun r2 =>
  bif (r2.toList==(⟨#[]⟩:ByteArray).toList) then
   (atS s 0).bind fun y1 =>
   (qeZ n (⟨#[97,98,99,100,101,102,103,104,105,106,107,108,109,110,111,112,113,114,115,116,117,118,119,120,121,122]⟩:ByteArray) (⟨y1⟩:IntK .u8)).bind fun r3 =>
   some (decide (r3 ≥ 0))
  else
   some false
 else
  some false
theorem qka {s:ByteArray}  {r:Bool} (hF:qhd n s=some r):RetV Tryz.prog 164 [.string s] w r:=by
 refine zV 17 Tryz.func164 rfl fun h=>X0 8 rfl (zcB h hF qac rfl fun r1 w1 h hF=>zp1 rfl (qg (t:=6) hF rfl ?_ ?_))<;>intro hF
 ·refine X0 3 rfl (zcS h hF qmF rfl fun r2 w2 h hF=>X0 4 rfl (qg (t:=11) hF rfl ?_ ?_))<;>intro hF
  ·refine X0 3 rfl ?_
   obtain ⟨y1,hx1,hF⟩:=qf hF
   have g1:=qjW hx1
   exact r_v (qjS qb g1 rfl rfl rfl rfl) rfl (X0 1 rfl (zcI h hF qjV rfl fun r3 w3 h hF=>X0 5 rfl (rb h hF rfl)))
  exact X0 7 rfl (rb h hF rfl)
 exact X0 12 rfl (rb h hF rfl)
def qbC (_:Nat) (list:(List qO)):Option Int :=
 some (list.length:Int)
theorem qgc {list:(List qO)} (ha1:GoT.R w (old w) list cs1) {r:Int} (hF:qbC n list=some r):RetV Tryz.prog 248 [GoT.v (List qO) cs1] w r:=by
 obtain ⟨p1,k1,rfl,s1⟩:=ha1
 exact zV 5 Tryz.func248 rfl fun h=>X0 10 rfl (ri h hF rfl)
def qbj (s:(List ByteArray)) (v:ByteArray):Nat→Int→Option (Flow Int Int)
 | 0,_=>none
 | n+1,i1 =>
  bif decide (i1<(s.length:Int)) then
   (idx s i1).bind fun y1 =>
   bif (v.toList==y1.toList) then some (.ret i1) else
   qbj s v n (W64 (i1+1))
  else
   some (.nxt i1)
def qdW (n:Nat) (s:(List ByteArray)) (v:ByteArray):Option Int :=
 (qbj s v n 0).bind fun o=>match o with
 | .ret r=>some r
 | .nxt _ =>
  some (-1)
theorem qjp {s:(List ByteArray)} {v:ByteArray} (ha1:GoT.R w (old w) s cs1) {r:Int} (hF:qdW n s v=some r):RetV Tryz.prog 320 [GoT.v (List ByteArray) cs1,.string v] w r:=by
 obtain ⟨p1,k1,rfl,s1⟩:=ha1
 refine zV 19 Tryz.func320 rfl fun h=>X0 11 rfl ?_
 obtain ⟨o1,hF,hK1⟩:=qf hF
 refine ql (rL (fun m e w'=>∃ (i1:Int),qbj s v m i1=some o1∧e=[(0,.slice p1 s.length k1),(1,.string v),(7,.int .i64 (s.length:Int)),(8,.int .i64 i1)]∧SH w w' []) n ⟨_,hF,rfl,h⟩ rfl ?_)
 rintro m1 e1 w1 ⟨i1,hF,rfl,h⟩
 rcases m1 with _|m1
 ·cases hF
 refine X0 5 rfl (qh rfl hF ?_ ?_)<;>intro hF
 ·refine X0 13 rfl ?_
  obtain ⟨y1,hy1,hF,he1,b1,_,q1,cs2,hp1,hq1,rfl,hc2⟩:=s1.ix hF
  refine zxe hp1 hq1 he1 rfl (zc 0 (hc2.below h.below) rfl (X0 2 rfl (qh rfl hF ?_ ?_)))<;>intro hF
  ·refine X0 5 rfl ?_
   obtain rfl:=qa hF;replace hF:=hK1
   exact ri h hF rfl
  exact X0 6 rfl (rK ⟨_,hF,rfl,h⟩ rfl)
 refine qr rfl ?_
 obtain rfl:=qa hF;replace hF:=hK1
 exact X0 4 rfl (ri h hF rfl)
def qcR (n:Nat) (s:(List ByteArray)) (v:ByteArray):Option Bool :=
 (qdW n s v).bind fun r1 =>
 some (decide (r1 ≥ 0))
theorem qiz {s:(List ByteArray)} {v:ByteArray} (ha1:GoT.R w (old w) s cs1) {r:Bool} (hF:qcR n s v=some r):RetV Tryz.prog 301 [GoT.v (List ByteArray) cs1,.string v] w r:=by
 obtain ⟨p1,k1,rfl,s1⟩:=ha1
 exact zV 9 Tryz.func301 rfl fun h=>X0 8 rfl (zcI h hF (qjp ⟨_,_,rfl,(h.oldS s1)⟩) rfl fun r1 w1 h hF=>X0 3 rfl (rb h hF rfl))
def qda (list:(List ByteArray)):Nat→Int→Option (Flow Bool Int)
 | 0,_=>none
 | n+1,i1 =>
  bif decide (i1<(list.length:Int)) then
   (idx list i1).bind fun y1 =>
   (qhd n y1).bind fun r1 =>
   bif (!r1) then some (.ret false) else
   (subS list 0 i1).bind fun x1 =>
   (qcR n x1 y1).bind fun r2 =>
   bif r2 then some (.ret false) else
   qda list n (W64 (i1+1))
  else
   some (.nxt i1)
def qcW (n:Nat) (list:(List ByteArray)):Option Bool :=
 (qda list n 0).bind fun o=>match o with
 | .ret r=>some r
 | .nxt _ =>
  some true
theorem qei {list:(List ByteArray)} (ha1:GoT.R w (old w) list cs1) {r:Bool} (hF:qcW n list=some r):RetV Tryz.prog 267 [GoT.v (List ByteArray) cs1] w r:=by
 obtain ⟨p1,k1,rfl,s1⟩:=ha1
 refine zV 23 Tryz.func267 rfl fun h=>X0 11 rfl ?_
 obtain ⟨o1,hF,hK1⟩:=qf hF
 refine ql (rL (fun m e w'=>∃ (i1:Int),qda list m i1=some o1∧e=[(0,.slice p1 list.length k1),(5,.slice p1 list.length k1),(6,.int .i64 (list.length:Int)),(7,.int .i64 i1)]∧SH w w' []) n ⟨_,hF,rfl,h⟩ rfl ?_)
 rintro m1 e1 w1 ⟨i1,hF,rfl,h⟩
 rcases m1 with _|m1
 ·cases hF
 refine X0 5 rfl (qh rfl hF ?_ ?_)<;>intro hF
 ·refine X0 6 rfl ?_
  obtain ⟨y1,hy1,hF,he1,b1,_,q1,cs2,hp1,hq1,rfl,hc2⟩:=s1.ix hF
  refine zxe hp1 hq1 he1 rfl (zc 0 (hc2.below h.below) rfl (X0 6 rfl (zcB h hF qka rfl fun r1 w2 h hF=>zp2 rfl (qg (t:=15) hF rfl ?_ ?_))))<;>intro hF
  ·refine X0 7 rfl (qb2 rfl rfl (X0 4 rfl ?_))
   obtain rfl:=qa hF;replace hF:=hK1
   exact rb h hF rfl
  refine X0 5 rfl ?_
  obtain ⟨x1,hx1,hF⟩:=qf hF
  obtain ⟨p2,k2,hp2,hk1,hl1,g1⟩:=qsX (h.oldS s1) hx1
  refine r_v (qpH qb rfl rfl rfl (qsx g1 rfl) hp2 hk1 hl1 rfl rfl rfl rfl) rfl ?_
  have s2:=qsm s1 hx1 hp2 hk1
  refine X0 3 rfl (zcB h hF (qiz ⟨_,_,rfl,(h.oldS s2)⟩) rfl fun r2 w3 h hF=>X0 2 rfl (qh rfl hF ?_ ?_))<;>intro hF
  ·refine X0 4 rfl ?_
   obtain rfl:=qa hF;replace hF:=hK1
   exact rb h hF rfl
  exact X0 6 rfl (rK ⟨_,hF,rfl,h⟩ rfl)
 refine qr rfl ?_
 obtain rfl:=qa hF;replace hF:=hK1
 exact X0 4 rfl (rb h hF rfl)
def qbW (list:(List qO)):Nat→(List ByteArray)→Int→Option (Flow Bool ((List ByteArray) × Int))
 | 0,_,_=>none
 | n+1,x1,i1 =>
  bif decide (i1<(list.length:Int)) then
   (idx list i1).bind fun y1 =>
   (appS x1 ([y1.Ar]:List ByteArray)).bind fun x2 =>
   bif (i1==(W64 ((list.length:Int)-1))) then
    bif (y1.Bm != 2) then some (.ret false) else
    bif (y1.Bk != 0) then some (.ret false) else
    bif y1.Bh then some (.ret false) else
    qbW list n x2 (W64 (i1+1))
   else
    bif (y1.Bm != 1) then some (.ret false) else
    (qam n y1.Bk 0 500).bind fun r1 =>
    bif (!r1) then some (.ret false) else
    qbW list n x2 (W64 (i1+1))
  else
   some (.nxt (x1,i1))
def qhP (n:Nat) (list:(List qO)):Option Bool :=
 (qbW list n ([]:List ByteArray) 0).bind fun o=>match o with
 | .ret r=>some r
 | .nxt (x1,_) =>
  (qbC n list).bind fun r2 =>
  (qam n r2 2 5).bind fun r3 =>
  bif r3 then
   (qcW n x1).bind fun r4 =>
   some r4
  else
   some false
theorem qmm {list:(List qO)} (ha1:GoT.R w (old w) list cs1) {r:Bool} (hF:qhP n list=some r):RetV Tryz.prog 298 [GoT.v (List qO) cs1] w r:=by
 obtain ⟨p1,k1,rfl,s1⟩:=ha1
 refine zV 52 Tryz.func298 rfl fun h=>X0 15 rfl ?_
 replace h:=h.nil (α:=ByteArray)
 obtain ⟨o1,hF,hK1⟩:=qf hF
 refine ql (rL (fun m e w'=>∃ (S1:Nat→Prop) (p2:Option Addr) (ln1:Nat) (k2:Nat) (x1:(List ByteArray)) (i1:Int),qbW list m x1 i1=some o1∧e=[(0,.slice p1 list.length k1),(3,.slice p2 ln1 k2),(6,.slice p1 list.length k1),(7,.int .i64 (list.length:Int)),(8,.int .i64 i1)]∧SH w w' [Ch.own S1 (x1:List ByteArray) [.slice p2 ln1 k2]]) n ⟨_,_,_,_,_,_,hF,rfl,h⟩ rfl ?_)
 rintro m1 e1 w1 ⟨S1,p2,ln1,k2,x1,i1,hF,rfl,h⟩
 obtain rfl:=(h.sl 0 rfl).2
 rcases m1 with _|m1
 ·cases hF
 refine X0 5 rfl (qh rfl hF ?_ ?_)<;>intro hF
 ·refine X0 6 rfl ?_
  obtain ⟨y1,hy1,hF,he1,b1,_,q1,cs2,hp1,hq1,hr1,hc2⟩:=s1.ix hF
  obtain rfl:=qau hr1
  refine zxe hp1 hq1 he1 rfl (zc 0 (hc2.below h.below) rfl (qx qb h rfl rfl rfl fun w2 bb1 h=>zp1 rfl (zs 0 h rfl fun w3 h=>X1 6 0 h rfl (qab qb [.tmp 15] _ ([y1.Ar]:List ByteArray) h rfl rfl rfl rfl rfl rfl rfl rfl rfl ⟨rfl,trivial⟩ rfl fun w4 p3 S2 h=>?_))))
  obtain ⟨x2,hx1,hF⟩:=qf hF
  obtain ⟨g1,hx1⟩:=qaY hx1
  refine qd1 qb 2 h rfl (h.sl 0 rfl).1 (h.sl 0 rfl).2 rfl rfl rfl rfl rfl rfl rfl rfl rfl g1 hx1 rfl fun w5 p4 k3 S3 h=>X0 10 rfl (qh rfl hF ?_ ?_)<;>intro hF
  ·refine X1 6 1 h rfl (qg (t:=26) hF rfl ?_ ?_)<;>intro hF
   ·refine X0 9 rfl (qb2 rfl rfl (X0 4 rfl ?_))
    obtain rfl:=qa hF;replace hF:=hK1
    exact rb h hF rfl
   refine X1 8 1 h rfl (qg (t:=31) hF rfl ?_ ?_)<;>intro hF
   ·refine X0 4 rfl (qb2 rfl rfl (X0 4 rfl ?_))
    obtain rfl:=qa hF;replace hF:=hK1
    exact rb h hF rfl
   refine X1 6 1 h rfl (qh rfl hF ?_ ?_)<;>intro hF
   ·refine X0 4 rfl ?_
    obtain rfl:=qa hF;replace hF:=hK1
    exact rb h hF rfl
   refine X0 6 rfl ?_
   replace h:=h.pick [2] rfl
   exact rK ⟨_,_,_,_,_,_,hF,rfl,h⟩ rfl
  refine X1 6 1 h rfl (qg (t:=38) hF rfl ?_ ?_)<;>intro hF
  ·refine X0 6 rfl (qb2 rfl rfl (X0 4 rfl ?_))
   obtain rfl:=qa hF;replace hF:=hK1
   exact rb h hF rfl
  refine X1 5 1 h rfl (zcB h hF qac rfl fun r1 w6 h hF=>X0 4 rfl (qh rfl hF ?_ ?_))<;>intro hF
  ·refine X0 4 rfl ?_
   obtain rfl:=qa hF;replace hF:=hK1
   exact rb h hF rfl
  refine X0 6 rfl ?_
  replace h:=h.pick [2] rfl
  exact rK ⟨_,_,_,_,_,_,hF,rfl,h⟩ rfl
 refine qr rfl ?_
 obtain rfl:=qa hF;replace hF:=hK1
 refine X0 3 rfl (zcI h hF (qgc ⟨_,_,rfl,(h.oldS s1)⟩) rfl fun r2 w7 h hF=>zcB h hF qac rfl fun r3 w8 h hF=>zp1 rfl (qg (t:=48) hF rfl ?_ ?_))<;>intro hF
 ·exact X0 3 rfl (zcB h hF (qei (h.own 0 rfl)) rfl fun r4 w9 h hF=>X0 3 rfl (rb h hF rfl))
 exact X0 5 rfl (rb h hF rfl)
def qc8 (n:Nat) (c:qp):Option Int :=
 (qbC n c.Am).bind fun r1 =>
 some (W64 (r1-1))
theorem qfB {c:qp} (ha1:GoT.R w (old w) c cs1) {r:Int} (hF:qc8 n c=some r):RetV Tryz.prog 188 [GoT.v qp cs1] w r:=by
 obtain ⟨p1,k1,p2,k2,p3,k3,rfl,s1,s2,s3⟩:=qU ha1
 exact zV 7 Tryz.func188 rfl fun h=>zSR (qu h rfl rfl fun w1 bb1 h=>X1 6 0 h rfl (zcI h hF (qgc ⟨_,_,rfl,(h.oldS s1)⟩) rfl fun r1 w2 h hF=>X0 3 rfl (ri h hF rfl)))
def qhG (_:Nat) (kind:Int):Option Bool :=
 bif (kind==4) then some true else
 some (kind==5)
theorem qmH {kind:Int}  {r:Bool} (hF:qhG n kind=some r):RetV Tryz.prog 329 [.int .i64 kind] w r:=by
 refine zV 9 Tryz.func329 rfl fun h=>X0 9 rfl (qg (t:=5) hF rfl ?_ ?_)<;>intro hF
 ·exact X0 5 rfl (rb h hF rfl)
 exact X0 7 rfl (rb h hF rfl)
def qfw (n:Nat) (a_n:Int) (v0:Int) (v1:Int):Option Bool :=
 (qam n a_n v0 v1).bind fun r1 =>
 some (!r1)
theorem qkD {a_n:Int} {v0:Int} {v1:Int} {p1:Option Addr} (ha1:GoT.R w (old w) (some v0) [.pointer p1]) {p2:Option Addr} (ha2:GoT.R w (old w) (some v1) [.pointer p2]) {r:Bool} (hF:qfw n a_n v0 v1=some r):RetV Tryz.prog 166 [.int .i64 a_n,.pointer p1,.pointer p2] w r:=by
 obtain ⟨b1,o_1,cs1,rfl,-,hr1,hc1⟩:=PtR.get ha1 rfl
 obtain rfl:=hr1
 obtain ⟨b2,o_2,cs2,rfl,-,hr2,hc2⟩:=PtR.get ha2 rfl
 obtain rfl:=hr2
 exact zV 10 Tryz.func166 rfl fun h=>X0 7 rfl (zc 0 (hc1.below h.below) rfl (zc 0 (hc2.below h.below) rfl (zcB h hF qac rfl fun r1 w1 h hF=>X0 3 rfl (rb h hF rfl))))
def qL (s:(List Int)) (f_0:Int) (f_1:Int):Nat→Int→Option (Flow Int Int)
 | 0,_=>none
 | n+1,i1 =>
  bif decide (i1<(s.length:Int)) then
   (idx s i1).bind fun y1 =>
   (qfw n y1 f_0 f_1).bind fun r1 =>
   bif r1 then some (.ret i1) else
   qL s f_0 f_1 n (W64 (i1+1))
  else
   some (.nxt i1)
def qaq (n:Nat) (s:(List Int)) (f_0:Int) (f_1:Int):Option Int :=
 (qL s f_0 f_1 n 0).bind fun o=>match o with
 | .ret r=>some r
 | .nxt _ =>
  some (-1)
theorem qek {s:(List Int)} {f_0:Int} {f_1:Int} (ha1:GoT.R w (old w) s cs1) {p2:Option Addr} (ha2:GoT.R w (old w) (some f_0) [.pointer p2]) {p3:Option Addr} (ha3:GoT.R w (old w) (some f_1) [.pointer p3]) {r:Int} (hF:qaq n s f_0 f_1=some r):RetV Tryz.prog 159 [GoT.v (List Int) cs1,.func (.func 166) #[] #[.pointer p2,.pointer p3]] w r:=by
 obtain ⟨p1,k1,rfl,s1⟩:=ha1
 obtain ⟨b1,o_1,cs2,rfl,-,hr1,hc1⟩:=PtR.get ha2 rfl
 obtain rfl:=hr1
 obtain ⟨b2,o_2,cs3,rfl,-,hr2,hc2⟩:=PtR.get ha3 rfl
 obtain rfl:=hr2
 refine zV 19 Tryz.func159 rfl fun h=>X0 11 rfl ?_
 obtain ⟨o1,hF,hK1⟩:=qf hF
 refine ql (rL (fun m e w'=>∃ (i1:Int),qL s f_0 f_1 m i1=some o1∧e=[(0,.slice p1 s.length k1),(1,.func (.func 166) #[] #[.pointer (some ⟨b1,o_1,none⟩),.pointer (some ⟨b2,o_2,none⟩)]),(7,.int .i64 (s.length:Int)),(8,.int .i64 i1)]∧SH w w' []) n ⟨_,hF,rfl,h⟩ rfl ?_)
 rintro m1 e1 w1 ⟨i1,hF,rfl,h⟩
 rcases m1 with _|m1
 ·cases hF
 refine X0 5 rfl (qh rfl hF ?_ ?_)<;>intro hF
 ·refine X0 13 rfl ?_
  obtain ⟨y1,hy1,hF,he1,b3,_,q1,cs4,hp1,hq1,rfl,hc4⟩:=s1.ix hF
  refine zxe hp1 hq1 he1 rfl (zc 0 (hc4.below h.below) rfl (zcB h hF (qkD (h.old ha2) (h.old ha3)) rfl fun r1 w2 h hF=>qdj (qh rfl hF ?_ ?_)))<;>intro hF
  ·refine X0 5 rfl ?_
   obtain rfl:=qa hF;replace hF:=hK1
   exact ri h hF rfl
  exact X0 6 rfl (rK ⟨_,hF,rfl,h⟩ rfl)
 refine qr rfl ?_
 obtain rfl:=qa hF;replace hF:=hK1
 exact X0 4 rfl (ri h hF rfl)
def qaZ (n:Nat) (s:(List Int)) (f_0:Int) (f_1:Int):Option Bool :=
 (qaq n s f_0 f_1).bind fun r1 =>
 some (decide (r1 ≥ 0))
theorem qdS {s:(List Int)} {f_0:Int} {f_1:Int} (ha1:GoT.R w (old w) s cs1) {p2:Option Addr} (ha2:GoT.R w (old w) (some f_0) [.pointer p2]) {p3:Option Addr} (ha3:GoT.R w (old w) (some f_1) [.pointer p3]) {r:Bool} (hF:qaZ n s f_0 f_1=some r):RetV Tryz.prog 80 [GoT.v (List Int) cs1,.func (.func 166) #[] #[.pointer p2,.pointer p3]] w r:=by
 obtain ⟨p1,k1,rfl,s1⟩:=ha1
 obtain ⟨b1,o_1,cs2,rfl,-,hr1,hc1⟩:=PtR.get ha2 rfl
 obtain rfl:=hr1
 obtain ⟨b2,o_2,cs3,rfl,-,hr2,hc2⟩:=PtR.get ha3 rfl
 obtain rfl:=hr2
 exact zV 9 Tryz.func80 rfl fun h=>X0 8 rfl (zcI h hF (qek ⟨_,_,rfl,(h.oldS s1)⟩ (h.old ha2) (h.old ha3)) rfl fun r1 w1 h hF=>X0 3 rfl (rb h hF rfl))
def qbO (n:Nat) (list:(List Int)) (low:Int) (high:Int):Option Bool :=
 (qaZ n list low high).bind fun r1 =>
 some (!r1)
theorem qcs {list:(List Int)} {low:Int} {high:Int} (ha1:GoT.R w (old w) list cs1) {r:Bool} (hF:qbO n list low high=some r):RetV Tryz.prog 87 [GoT.v (List Int) cs1,.int .i64 low,.int .i64 high] w r:=by
 obtain ⟨p1,k1,rfl,s1⟩:=ha1
 exact zV 11 Tryz.func87 rfl fun h=>zSR (qu h rfl rfl fun w1 bb1 h=>qu h rfl rfl fun w2 bb2 h=>X0 6 rfl (zcB h hF (qdS ⟨_,_,rfl,(h.oldS s1)⟩ (qiw (x:=low) 1 h rfl rfl) (qiw (x:=high) 0 h rfl rfl)) rfl fun r1 w3 h hF=>X0 3 rfl (rb h hF rfl)))
def qaR (_:Nat) (list:(List Int)):Option Int :=
 some (list.length:Int)
theorem qby {list:(List Int)} (ha1:GoT.R w (old w) list cs1) {r:Int} (hF:qaR n list=some r):RetV Tryz.prog 175 [GoT.v (List Int) cs1] w r:=by
 obtain ⟨p1,k1,rfl,s1⟩:=ha1
 exact zV 5 Tryz.func175 rfl fun h=>X0 10 rfl (ri h hF rfl)
def qaU (list:(List Int)):Nat→Int→Option (Flow Bool Int)
 | 0,_=>none
 | n+1,i1 =>
  bif decide (i1<(list.length:Int)) then
   (idx list (W64 (i1-1))).bind fun y1 =>
   (idx list i1).bind fun y2 =>
   bif decide (y1 ≥ y2) then some (.ret false) else
   qaU list n (W64 (i1+1))
  else
   some (.nxt i1)
def qeY (n:Nat) (list:(List Int)):Option Bool :=
 (qaU list n 1).bind fun o=>match o with
 | .ret r=>some r
 | .nxt _ =>
  some true
theorem qkc {list:(List Int)} (ha1:GoT.R w (old w) list cs1) {r:Bool} (hF:qeY n list=some r):RetV Tryz.prog 179 [GoT.v (List Int) cs1] w r:=by
 obtain ⟨p1,k1,rfl,s1⟩:=ha1
 refine zV 20 Tryz.func179 rfl fun h=>X0 9 rfl ?_
 obtain ⟨o1,hF,hK1⟩:=qf hF
 refine ql (rL (fun m e w'=>∃ (i1:Int),qaU list m i1=some o1∧e=[(0,.slice p1 list.length k1),(3,.int .i64 i1)]∧SH w w' []) n ⟨_,hF,rfl,h⟩ rfl ?_)
 rintro m1 e1 w1 ⟨i1,hF,rfl,h⟩
 rcases m1 with _|m1
 ·cases hF
 refine X0 8 rfl (qh rfl hF ?_ ?_)<;>intro hF
 ·refine X0 4 rfl (rD (zd3 rfl ?_))
  obtain ⟨y1,hy1,hF,he1,b1,_,q1,cs2,hp1,hq1,rfl,hc2⟩:=s1.ix hF
  refine zdxe hp1 hq1 he1 rfl (zdc 0 (hc2.below h.below) rfl (zd2 rfl ?_))
  obtain ⟨y2,hy2,hF,he2,b2,_,q2,cs3,hp2,hq2,rfl,hc3⟩:=s1.ix hF
  refine zdxe hp2 hq2 he2 rfl (zdc 0 (hc3.below h.below) rfl (zd1 rfl (dN h fun w2 h=>qh rfl hF ?_ ?_)))<;>intro hF
  ·refine X0 4 rfl ?_
   obtain rfl:=qa hF;replace hF:=hK1
   exact rb h hF rfl
  exact X0 7 rfl (rK ⟨_,hF,rfl,h⟩ rfl)
 refine qr rfl ?_
 obtain rfl:=qa hF;replace hF:=hK1
 exact X0 4 rfl (rb h hF rfl)
def qhc (n:Nat) (list:(List Int)):Option Bool :=
 (qaR n list).bind fun r1 =>
 (qam n r1 1 4).bind fun r2 =>
 bif r2 then
  (qbO n list 0 100000).bind fun r3 =>
  bif r3 then
   (qeY n list).bind fun r4 =>
   some r4
  else
   some false
 else
  some false
theorem qki {list:(List Int)} (ha1:GoT.R w (old w) list cs1) {r:Bool} (hF:qhc n list=some r):RetV Tryz.prog 348 [GoT.v (List Int) cs1] w r:=by
 obtain ⟨p1,k1,rfl,s1⟩:=ha1
 refine zV 14 Tryz.func348 rfl fun h=>X0 7 rfl (zcI h hF (qby ⟨_,_,rfl,(h.oldS s1)⟩) rfl fun r1 w1 h hF=>zcB h hF qac rfl fun r2 w2 h hF=>zp1 rfl (qg (t:=6) hF rfl ?_ ?_))<;>intro hF
 ·refine X0 3 rfl (zcB h hF (qcs ⟨_,_,rfl,(h.oldS s1)⟩) rfl fun r3 w3 h hF=>zp2 rfl (qg (t:=10) hF rfl ?_ ?_))<;>intro hF
  ·exact X0 3 rfl (zcB h hF (qkc ⟨_,_,rfl,(h.oldS s1)⟩) rfl fun r4 w4 h hF=>X0 3 rfl (rb h hF rfl))
  exact X0 5 rfl (rb h hF rfl)
 exact X0 9 rfl (rb h hF rfl)
def qhQ (n:Nat) (t:qq):Option Bool :=
 (qhc n t.Bf).bind fun r1 =>
 bif r1 then
  (qhc n t.Be).bind fun r2 =>
  bif r2 then
   bif ((t.Av.length:Int)==(W64 ((t.Bf.length:Int)*(t.Be.length:Int)))) then
    (qbO n t.Av (-1000000) 1000000).bind fun r3 =>
    some r3
   else
    some false
  else
   some false
 else
  some false
theorem qmB {t:qq} (ha1:GoT.R w (old w) t cs1) {r:Bool} (hF:qhQ n t=some r):RetV Tryz.prog 342 [GoT.v qq cs1] w r:=by
 obtain ⟨p1,k1,p2,k2,p3,k3,rfl,s1,s2,s3⟩:=qaX ha1
 refine zV 29 Tryz.func342 rfl fun h=>zSR (qu h rfl rfl fun w1 bb1 h=>X1 6 0 h rfl (zcB h hF (qki ⟨_,_,rfl,(h.oldS s1)⟩) rfl fun r1 w2 h hF=>zp1 rfl (qg (t:=6) hF rfl ?_ ?_)))<;>intro hF
 ·refine X1 5 0 h rfl (zcB h hF (qki ⟨_,_,rfl,(h.oldS s2)⟩) rfl fun r2 w3 h hF=>zp2 rfl (qg (t:=11) hF rfl ?_ ?_))<;>intro hF
  ·refine X3 24 0 0 0 h rfl (qg (t:=24) hF rfl ?_ ?_)<;>intro hF
   ·exact X1 5 0 h rfl (zcB h hF (qcs ⟨_,_,rfl,(h.oldS s3)⟩) rfl fun r3 w4 h hF=>X0 3 rfl (rb h hF rfl))
   exact X0 6 rfl (rb h hF rfl)
  exact X0 19 rfl (rb h hF rfl)
 exact X0 24 rfl (rb h hF rfl)
def qbS (x:(List Int)):Nat→Int→Int→Option (Int × Int)
 | 0,_,_=>none
 | n+1,i1,i2 =>
  bif decide (i2<(x.length:Int)) then
   (idx x i2).bind fun y2 =>
   qbS x n (if y2<i1 then y2 else i1) (W64 (i2+1))
  else
   some (i1,i2)
def qft (n:Nat) (x:(List Int)):Option Int :=
 (
  bif decide ((x.length:Int)<1) then none else
  some ()).bind fun _ =>
 (idx x 0).bind fun y1 =>
 (qbS x n y1 1).bind fun o=>match o with
 | (i1,_) =>
  some i1
theorem qkz {x:(List Int)} (ha1:GoT.R w (old w) x cs1) {r:Int} (hF:qft n x=some r):RetV Tryz.prog 343 [GoT.v (List Int) cs1] w r:=by
 obtain ⟨p1,k1,rfl,s1⟩:=ha1
 refine zV 25 Tryz.func343 rfl fun h=>X0 11 rfl ?_
 obtain ⟨KF1,hKF1,o2,hF,hK2⟩:=bindE hF
 refine qcx (fun e w'=>KF1 ()=some r∧e=[(0,.slice p1 x.length k1)]∧SH w w' []) ?_ ?_
 ·refine qh rfl hF ?_ ?_<;>intro hF
  ·refine qiY ?_
   cases hF
  refine qh9 ?_
  obtain rfl:=qa hF
  exact rG ⟨hK2,rfl,h⟩ rfl
 rintro e2 w2 ⟨hF,rfl,h⟩
 subst hKF1
 refine X0 3 rfl ?_
 obtain ⟨y1,hy1,hF,he1,b1,_,q1,cs2,hp1,hq1,rfl,hc1⟩:=s1.ix hF
 refine zxe hp1 hq1 he1 rfl (zc 0 (hc1.below h.below) rfl (X0 7 rfl ?_))
 obtain ⟨o1,hF,hK1⟩:=qf hF
 refine ql (rL (fun m e w'=>∃ (i1:Int) (i2:Int),qbS x m i1 i2=some o1∧e=[(0,.slice p1 x.length k1),(3,.int .i64 i1),(4,.int .i64 i2)]∧SH w w' []) n ⟨_,_,hF,rfl,h⟩ rfl ?_)
 rintro m1 e1 w1 ⟨i1,i2,hF,rfl,h⟩
 rcases m1 with _|m1
 ·cases hF
 refine X0 8 rfl (qh rfl hF ?_ ?_)<;>intro hF
 ·refine X0 7 rfl ?_
  obtain ⟨y2,hy2,hF,he2,b2,_,q2,cs3,hp2,hq2,rfl,hc3⟩:=s1.ix hF
  exact zxe hp2 hq2 he2 rfl (zc 0 (hc3.below h.below) rfl (X0 9 rfl (rK ⟨_,_,hF,rfl,h⟩ rfl)))
 refine qr rfl ?_
 obtain rfl:=qa hF;replace hF:=hK1
 exact X0 5 rfl (ri h hF rfl)
def qfo (n:Nat) (t:qq) (v0:Bool):Option Bool :=
 (qhQ n t).bind fun r1 =>
 bif (!r1) then some true else
 bif v0 then
  (qft n t.Av).bind fun r2 =>
  some (decide (r2<0))
 else
  some false
theorem qkt {t:qq} {v0:Bool} (ha1:GoT.R w (old w) t cs1) {p4:Option Addr} (ha2:GoT.R w (old w) (some v0) [.pointer p4]) {r:Bool} (hF:qfo n t v0=some r):RetV Tryz.prog 341 [GoT.v qq cs1,.pointer p4] w r:=by
 obtain ⟨p1,k1,p2,k2,p3,k3,rfl,s1,s2,s3⟩:=qaX ha1
 obtain ⟨b1,o_1,cs2,rfl,-,hr1,hc1⟩:=PtR.get ha2 rfl
 obtain rfl:=hr1
 refine zV 16 Tryz.func341 rfl fun h=>zSR (qu h rfl rfl fun w1 bb1 h=>X1 5 0 h rfl (zcB h hF (qmB (h.old ha1)) rfl fun r1 w2 h hF=>zp2 rfl (qg (t:=7) hF rfl ?_ ?_)))<;>intro hF
 ·exact X0 10 rfl (rb h hF rfl)
 refine X0 1 rfl (zc 0 (hc1.below h.below) rfl (X0 2 rfl (qg (t:=9) hF rfl ?_ ?_)))<;>intro hF
 ·exact X1 5 0 h rfl (zcI h hF (qkz ⟨_,_,rfl,(h.oldS s3)⟩) rfl fun r2 w3 h hF=>X0 7 rfl (rb h hF rfl))
 exact X0 9 rfl (rb h hF rfl)
def qE (s:(List qq)) (f_0:Bool):Nat→Int→Option (Flow Int Int)
 | 0,_=>none
 | n+1,i1 =>
  bif decide (i1<(s.length:Int)) then
   (idx s i1).bind fun y1 =>
   (qfo n y1 f_0).bind fun r1 =>
   bif r1 then some (.ret i1) else
   qE s f_0 n (W64 (i1+1))
  else
   some (.nxt i1)
def qae (n:Nat) (s:(List qq)) (f_0:Bool):Option Int :=
 (qE s f_0 n 0).bind fun o=>match o with
 | .ret r=>some r
 | .nxt _ =>
  some (-1)
theorem qdL {s:(List qq)} {f_0:Bool} (ha1:GoT.R w (old w) s cs1) {p2:Option Addr} (ha2:GoT.R w (old w) (some f_0) [.pointer p2]) {r:Int} (hF:qae n s f_0=some r):RetV Tryz.prog 347 [GoT.v (List qq) cs1,.func (.func 341) #[] #[.pointer p2]] w r:=by
 obtain ⟨p1,k1,rfl,s1⟩:=ha1
 obtain ⟨b1,o_1,cs2,rfl,-,hr1,hc1⟩:=PtR.get ha2 rfl
 obtain rfl:=hr1
 refine zV 19 Tryz.func347 rfl fun h=>X0 11 rfl ?_
 obtain ⟨o1,hF,hK1⟩:=qf hF
 refine ql (rL (fun m e w'=>∃ (i1:Int),qE s f_0 m i1=some o1∧e=[(0,.slice p1 s.length k1),(1,.func (.func 341) #[] #[.pointer (some ⟨b1,o_1,none⟩)]),(7,.int .i64 (s.length:Int)),(8,.int .i64 i1)]∧SH w w' []) n ⟨_,hF,rfl,h⟩ rfl ?_)
 rintro m1 e1 w1 ⟨i1,hF,rfl,h⟩
 rcases m1 with _|m1
 ·cases hF
 refine X0 5 rfl (qh rfl hF ?_ ?_)<;>intro hF
 ·refine X0 13 rfl ?_
  obtain ⟨y1,hy1,hF,he1,b2,_,q1,cs3,hp1,hq1,hr2,hc3⟩:=s1.ix hF
  obtain ⟨p3,k2,p4,k3,p5,k4,rfl,s2,s3,s4⟩:=qaX hr2
  refine zxe hp1 hq1 he1 rfl (zc 0 (hc3.below h.below) rfl (zcB h hF (qkt (qgT y1 (h.oldS s2) (h.oldS s3) (h.oldS s4)) (h.old ha2)) rfl fun r1 w2 h hF=>qdj (qh rfl hF ?_ ?_)))<;>intro hF
  ·refine X0 5 rfl ?_
   obtain rfl:=qa hF;replace hF:=hK1
   exact ri h hF rfl
  exact X0 6 rfl (rK ⟨_,hF,rfl,h⟩ rfl)
 refine qr rfl ?_
 obtain rfl:=qa hF;replace hF:=hK1
 exact X0 4 rfl (ri h hF rfl)
def qaz (n:Nat) (s:(List qq)) (f_0:Bool):Option Bool :=
 (qae n s f_0).bind fun r1 =>
 some (decide (r1 ≥ 0))
theorem qdf {s:(List qq)} {f_0:Bool} (ha1:GoT.R w (old w) s cs1) {p2:Option Addr} (ha2:GoT.R w (old w) (some f_0) [.pointer p2]) {r:Bool} (hF:qaz n s f_0=some r):RetV Tryz.prog 340 [GoT.v (List qq) cs1,.func (.func 341) #[] #[.pointer p2]] w r:=by
 obtain ⟨p1,k1,rfl,s1⟩:=ha1
 obtain ⟨b1,o_1,cs2,rfl,-,hr1,hc1⟩:=PtR.get ha2 rfl
 obtain rfl:=hr1
 exact zV 9 Tryz.func340 rfl fun h=>X0 8 rfl (zcI h hF (qdL ⟨_,_,rfl,(h.oldS s1)⟩ (h.old ha2)) rfl fun r1 w1 h hF=>X0 3 rfl (rb h hF rfl))
def qd5 (n:Nat) (list:(List qq)) (positive:Bool):Option Bool :=
 bif ((list.length:Int)==2) then
  (qaz n list positive).bind fun r1 =>
  some (!r1)
 else
  some false
theorem qgA {list:(List qq)} {positive:Bool} (ha1:GoT.R w (old w) list cs1) {r:Bool} (hF:qd5 n list positive=some r):RetV Tryz.prog 330 [GoT.v (List qq) cs1,.bool positive] w r:=by
 obtain ⟨p1,k1,rfl,s1⟩:=ha1
 refine zV 14 Tryz.func330 rfl fun h=>zSR (qu h rfl rfl fun w1 bb1 h=>X0 8 rfl (qg (t:=8) hF rfl ?_ ?_))<;>intro hF
 ·exact X0 5 rfl (zcB h hF (qdf ⟨_,_,rfl,(h.oldS s1)⟩ (qiw (x:=positive) 0 h rfl rfl)) rfl fun r1 w2 h hF=>X0 5 rfl (rb h hF rfl))
 exact X0 7 rfl (rb h hF rfl)
def qgy (_:Nat) (p:qO):Option Bool :=
 some p.Bh
theorem qj5 {p:qO} (ha1:GoT.R w (old w) p cs1) {r:Bool} (hF:qgy n p=some r):RetV Tryz.prog 345 [GoT.v qO cs1] w r:=by
 obtain rfl:=qau ha1
 exact zV 5 Tryz.func345 rfl fun h=>zSR (qu h rfl rfl fun w1 bb1 h=>X1 8 0 h rfl (rb h hF rfl))
def qG (s:(List qO)):Nat→Int→Option (Flow Int Int)
 | 0,_=>none
 | n+1,i1 =>
  bif decide (i1<(s.length:Int)) then
   (idx s i1).bind fun y1 =>
   (qgy n y1).bind fun r1 =>
   bif r1 then some (.ret i1) else
   qG s n (W64 (i1+1))
  else
   some (.nxt i1)
def qaT (n:Nat) (s:(List qO)):Option Int :=
 (qG s n 0).bind fun o=>match o with
 | .ret r=>some r
 | .nxt _ =>
  some (-1)
theorem qdP {s:(List qO)} (ha1:GoT.R w (old w) s cs1) {r:Int} (hF:qaT n s=some r):RetV Tryz.prog 344 [GoT.v (List qO) cs1,.func (.func 345) #[] #[]] w r:=by
 obtain ⟨p1,k1,rfl,s1⟩:=ha1
 refine zV 19 Tryz.func344 rfl fun h=>X0 11 rfl ?_
 obtain ⟨o1,hF,hK1⟩:=qf hF
 refine ql (rL (fun m e w'=>∃ (i1:Int),qG s m i1=some o1∧e=[(0,.slice p1 s.length k1),(1,.func (.func 345) #[] #[]),(7,.int .i64 (s.length:Int)),(8,.int .i64 i1)]∧SH w w' []) n ⟨_,hF,rfl,h⟩ rfl ?_)
 rintro m1 e1 w1 ⟨i1,hF,rfl,h⟩
 rcases m1 with _|m1
 ·cases hF
 refine X0 5 rfl (qh rfl hF ?_ ?_)<;>intro hF
 ·refine X0 13 rfl ?_
  obtain ⟨y1,hy1,hF,he1,b1,_,q1,cs2,hp1,hq1,hr1,hc2⟩:=s1.ix hF
  obtain rfl:=qau hr1
  refine zxe hp1 hq1 he1 rfl (zc 0 (hc2.below h.below) rfl (zcB h hF (qj5 (qcJ y1)) rfl fun r1 w2 h hF=>qdj (qh rfl hF ?_ ?_)))<;>intro hF
  ·refine X0 5 rfl ?_
   obtain rfl:=qa hF;replace hF:=hK1
   exact ri h hF rfl
  exact X0 6 rfl (rK ⟨_,hF,rfl,h⟩ rfl)
 refine qr rfl ?_
 obtain rfl:=qa hF;replace hF:=hK1
 exact X0 4 rfl (ri h hF rfl)
def qfX (n:Nat) (c:qp):Option Int :=
 (qaT n c.Am).bind fun r1 =>
 some r1
theorem qkW {c:qp} (ha1:GoT.R w (old w) c cs1) {r:Int} (hF:qfX n c=some r):RetV Tryz.prog 331 [GoT.v qp cs1] w r:=by
 obtain ⟨p1,k1,p2,k2,p3,k3,rfl,s1,s2,s3⟩:=qU ha1
 exact zV 6 Tryz.func331 rfl fun h=>zSR (qu h rfl rfl fun w1 bb1 h=>X1 6 0 h rfl (zcI h hF (qdP ⟨_,_,rfl,(h.oldS s1)⟩) rfl fun r1 w2 h hF=>X0 2 rfl (ri h hF rfl)))
def qeW (n:Nat) (c:qp) (pin:Int):Option Bool :=
 (qc8 n c).bind fun r1 =>
 (qam n pin 0 (W64 (r1-1))).bind fun r2 =>
 some r2
theorem qhk {c:qp} {pin:Int} (ha1:GoT.R w (old w) c cs1) {r:Bool} (hF:qeW n c pin=some r):RetV Tryz.prog 332 [GoT.v qp cs1,.int .i64 pin] w r:=by
 obtain ⟨p1,k1,p2,k2,p3,k3,rfl,s1,s2,s3⟩:=qU ha1
 exact zV 10 Tryz.func332 rfl fun h=>zSR (qu h rfl rfl fun w1 bb1 h=>X1 6 0 h rfl (zcI h hF (qfB (h.old ha1)) rfl fun r1 w2 h hF=>zp1 rfl (zcB h hF qac rfl fun r2 w3 h hF=>X0 2 rfl (rb h hF rfl))))
def qfV (n:Nat) (a_0:qp) (a_1:qF):Option Bool :=
 (qhG n a_1.Ay).bind fun r1 =>
 bif r1 then
  (
   bif (a_1.Bi==0) then
    bif ((a_1.Az.length:Int)==0) then
     (qd5 n a_1.Bb false).bind fun r2 =>
     bif r2 then
      (qfX n a_0).bind fun r3 =>
      bif (a_1.Bd==r3) then
       bif decide (a_1.Bd ≥ 0) then
        (qeW n a_0 a_1.To).bind fun r4 =>
        bif r4 then some (a_1.To != a_1.Bd) else
        some false
       else
        some false
      else
       some false
     else
      some false
    else
     some false
   else
    some false).bind fun b1 =>
  some b1
 else
  (
   (qd5 n a_1.Bb true).bind fun r6 =>
   bif (!r6) then some true else
   (qd5 n a_1.Az true).bind fun r7 =>
   bif (!r7) then some true else
   (qc8 n a_0).bind fun r8 =>
   bif (a_1.To != r8) then some true else
   (qeW n a_0 a_1.Bd).bind fun r9 =>
   some (!r9)).bind fun b2 =>
  bif b2 then some false else
  bif (a_1.Ay==1) then
   (idx a_0.Am a_1.Bd).bind fun y1 =>
   bif (!y1.Bh) then
    (qam n a_1.Bi 1 3).bind fun r5 =>
    some r5
   else
    some false
  else
   (
    bif (a_1.Ay==2) then some (a_1.Ay==2) else
    some (a_1.Ay==3)).bind fun b4 =>
   bif b4 then
    (idx a_0.Am a_1.Bd).bind fun y2 =>
    bif y2.Bh then some (a_1.Bi==0) else
    some false
   else
    some false
theorem qk4 {a_0:qp} {a_1:qF} (ha1:GoT.R w (old w) a_0 cs1) (ha2:GoT.R w (old w) a_1 cs2) {r:Bool} (hF:qfV n a_0 a_1=some r):RetV Tryz.prog 316 [GoT.v qp cs1,GoT.v qF cs2] w r:=by
 obtain ⟨p1,k1,p2,k2,p3,k3,rfl,s1,s2,s3⟩:=qU ha1
 obtain ⟨p4,k4,p5,k5,rfl,s4,s5⟩:=qag ha2
 refine zV 103 Tryz.func316 rfl fun h=>zSR (qu h rfl rfl fun w1 bb1 h=>qu h rfl rfl fun w2 bb2 h=>X1 7 0 h rfl (zcB h hF qmH rfl fun r1 w3 h hF=>qdj (qh rfl hF ?_ ?_)))<;>intro hF
 ·refine qej ?_
  obtain ⟨KF1,hKF1,o1,hF,hK1⟩:=bindE hF
  refine qcx (fun e w'=>∃ (b1:Bool),KF1 b1=some r∧e=[(4,.bool b1)]∧SH w w' []) ?_ ?_
  ·refine rD (Y1 2 0 h rfl ?_)
   refine zd2 rfl (qba (t:=11) hF rfl ?_ ?_)<;>intro hF
   ·refine Y1 4 0 h rfl ?_
    refine Y0 6 rfl (qba (t:=17) hF rfl ?_ ?_)<;>intro hF
    ·refine Y1 4 0 h rfl ?_
     refine Y0 1 rfl ?_
     obtain ⟨r2,hr2,hF⟩:=qf hF
     refine qbF r2 (vsB _) (cB 330 rfl) (fun _ hb=>qgA ⟨_,_,rfl,((h.ext hb).oldS s4)⟩ hr2) rfl rfl rfl rfl (zd2 rfl (qba (t:=22) hF rfl ?_ ?_))<;>intro hF
     ·refine Y1 4 0 h rfl ?_
      refine Y1 2 1 h rfl ?_
      refine Y0 1 rfl ?_
      obtain ⟨r3,hr3,hF⟩:=qf hF
      refine qbF r3 (vsI _) (cB 331 rfl) (fun _ hb=>qkW ((h.ext hb).old ha1) hr3) rfl rfl rfl rfl (Y0 4 rfl (qba (t:=29) hF rfl ?_ ?_))<;>intro hF
      ·refine Y1 4 0 h rfl ?_
       refine Y0 4 rfl (qba (t:=34) hF rfl ?_ ?_)<;>intro hF
       ·refine Y1 2 1 h rfl ?_
        refine Y1 4 0 h rfl ?_
        refine Y0 1 rfl ?_
        obtain ⟨r4,hr4,hF⟩:=qf hF
        refine qbF r4 (vsB _) (cB 332 rfl) (fun _ hb=>qhk ((h.ext hb).old ha1) hr4) rfl rfl rfl rfl (zd2 rfl (qba (t:=40) hF rfl ?_ ?_))<;>intro hF
        ·refine Y1 4 0 h rfl ?_
         refine Y1 4 0 h rfl ?_
         refine Y0 4 rfl (dN h fun w4 h=>?_)
         replace h:=h.pick [] rfl
         obtain rfl:=qa hF
         exact rG ⟨_,hK1,rfl,h⟩ rfl
        refine Y0 7 rfl (dN h fun w5 h=>?_)
        replace h:=h.pick [] rfl
        obtain rfl:=qa hF
        exact rG ⟨_,hK1,rfl,h⟩ rfl
       refine Y0 13 rfl (dN h fun w6 h=>?_)
       replace h:=h.pick [] rfl
       obtain rfl:=qa hF
       exact rG ⟨_,hK1,rfl,h⟩ rfl
      refine Y0 18 rfl (dN h fun w7 h=>?_)
      replace h:=h.pick [] rfl
      obtain rfl:=qa hF
      exact rG ⟨_,hK1,rfl,h⟩ rfl
     refine Y0 25 rfl (dN h fun w8 h=>?_)
     replace h:=h.pick [] rfl
     obtain rfl:=qa hF
     exact rG ⟨_,hK1,rfl,h⟩ rfl
    refine Y0 30 rfl (dN h fun w9 h=>?_)
    replace h:=h.pick [] rfl
    obtain rfl:=qa hF
    exact rG ⟨_,hK1,rfl,h⟩ rfl
   refine Y0 36 rfl (dN h fun w10 h=>?_)
   replace h:=h.pick [] rfl
   obtain rfl:=qa hF
   exact rG ⟨_,hK1,rfl,h⟩ rfl
  rintro e1 w11 ⟨b1,hF,rfl,h⟩
  subst hKF1
  exact rb h hF rfl
 refine zKSS ?_
 obtain ⟨KF3,hKF3,o3,hF,hK3⟩:=bindE hF
 refine qcx (fun e w'=>∃ (b2:Bool),KF3 b2=some r∧e=[(2,.pointer (some ⟨bb1,0,none⟩)),(3,.pointer (some ⟨bb2,0,none⟩)),(70,.bool b2)]∧SH w w' [Ch.box bb2 (qjq a_1 p4 p5 k4 k5) 254,Ch.box bb1 (qcQ a_0 p1 p2 p3 k1 k2 k3) 251]) ?_ ?_
 ·refine rD (Y1 2 0 h rfl ?_)
  obtain ⟨r6,hr8,hF⟩:=qf hF
  refine qbF r6 (vsB _) (cB 330 rfl) (fun _ hb=>qgA ⟨_,_,rfl,((h.ext hb).oldS s4)⟩ hr8) rfl rfl rfl rfl (zd2 rfl (qba (t:=51) hF rfl ?_ ?_))<;>intro hF
  ·refine Y0 19 rfl (dN h fun w14 h=>?_)
   obtain rfl:=qa hF
   exact rG ⟨_,hK3,rfl,h⟩ rfl
  refine Y1 4 0 h rfl ?_
  refine Y0 1 rfl ?_
  obtain ⟨r7,hr9,hF⟩:=qf hF
  refine qbF r7 (vsB _) (cB 330 rfl) (fun _ hb=>qgA ⟨_,_,rfl,((h.ext hb).oldS s5)⟩ hr9) rfl rfl rfl rfl (Y0 4 rfl (qba (t:=57) hF rfl ?_ ?_))<;>intro hF
  ·refine Y0 13 rfl (dN h fun w15 h=>?_)
   obtain rfl:=qa hF
   exact rG ⟨_,hK3,rfl,h⟩ rfl
  refine Y1 4 0 h rfl ?_
  refine Y1 2 1 h rfl ?_
  refine Y0 1 rfl ?_
  obtain ⟨r8,hr10,hF⟩:=qf hF
  refine qbF r8 (vsI _) (cB 188 rfl) (fun _ hb=>qfB ((h.ext hb).old ha1) hr10) rfl rfl rfl rfl (Y0 4 rfl (qba (t:=64) hF rfl ?_ ?_))<;>intro hF
  ·refine Y0 6 rfl (dN h fun w16 h=>?_)
   obtain rfl:=qa hF
   exact rG ⟨_,hK3,rfl,h⟩ rfl
  refine Y1 2 1 h rfl ?_
  refine Y1 4 0 h rfl ?_
  refine Y0 1 rfl ?_
  obtain ⟨r9,hr11,hF⟩:=qf hF
  refine qbF r9 (vsB _) (cB 332 rfl) (fun _ hb=>qhk ((h.ext hb).old ha1) hr11) rfl rfl rfl rfl (Y0 3 rfl (dN h fun w17 h=>?_))
  obtain rfl:=qa hF
  exact rG ⟨_,hK3,rfl,h⟩ rfl
 rintro e3 w18 ⟨b2,hF,rfl,h⟩
 subst hKF3
 refine qh rfl hF ?_ ?_<;>intro hF
 ·exact X0 4 rfl (rb h hF rfl)
 refine X1 13 0 h rfl (qh rfl hF ?_ ?_)<;>intro hF
 ·refine X2 6 1 0 h rfl ?_
  obtain ⟨y1,hy1,hF,he1,b3,_,q1,cs3,hp1,hq1,hr5,hc4⟩:=s1.ix hF
  obtain rfl:=qau hr5
  refine zxe hp1 hq1 he1 rfl (zp1 rfl (zc 3 (hc4.below h.below) rfl (zp2 rfl (qg (t:=83) hF rfl ?_ ?_))))<;>intro hF
  ·exact X1 5 0 h rfl (zcB h hF qac rfl fun r5 w12 h hF=>X0 3 rfl (rb h hF rfl))
  exact X0 6 rfl (rb h hF rfl)
 refine X0 6 rfl ?_
 obtain ⟨KF2,hKF2,o2,hF,hK2⟩:=bindE hF
 refine qcx (fun e w'=>∃ (b4:Bool),KF2 b4=some r∧e=[(2,.pointer (some ⟨bb1,0,none⟩)),(3,.pointer (some ⟨bb2,0,none⟩)),(88,.bool b4)]∧SH w w' [Ch.box bb2 (qjq a_1 p4 p5 k4 k5) 254,Ch.box bb1 (qcQ a_0 p1 p2 p3 k1 k2 k3) 251]) ?_ ?_
 ·refine qh rfl hF ?_ ?_<;>intro hF
  ·refine qh9 ?_
   obtain rfl:=qa hF
   exact rG ⟨_,hK2,rfl,h⟩ rfl
  refine X0 4 rfl ?_
  obtain rfl:=qa hF
  exact rG ⟨_,hK2,rfl,h⟩ rfl
 rintro e2 w13 ⟨b4,hF,rfl,h⟩
 subst hKF2
 refine qh rfl hF ?_ ?_<;>intro hF
 ·refine X2 6 1 0 h rfl ?_
  obtain ⟨y2,hy2,hF,he2,b5,_,q2,cs4,hp2,hq2,hr7,hc6⟩:=s1.ix hF
  obtain rfl:=qau hr7
  refine zxe hp2 hq2 he2 rfl (zp1 rfl (zc 3 (hc6.below h.below) rfl (zp1 rfl (qg (t:=98) hF rfl ?_ ?_))))<;>intro hF
  ·exact X1 9 0 h rfl (rb h hF rfl)
  exact X0 6 rfl (rb h hF rfl)
 exact X0 6 rfl (rb h hF rfl)
end Go.Fw


namespace Go.Fw
open Go Go.Proofs
open Go.RowKit (Below)
set_option maxRecDepth 100000
set_option maxHeartbeats 1600000
variable {n:Nat} {w:World} {cs1 cs2 cs3 cs4 cs5 cs6 cs7 cs8 cs9:List Value}
def qdU (_:Nat) (a_o:qF) (v0:qF):Option Bool :=
 bif (a_o.Ay==v0.Ay) then
  bif (a_o.Bd==v0.Bd) then some (a_o.To==v0.To) else
  some false
 else
  some false
theorem qjy {a_o:qF} {v0:qF} (ha1:GoT.R w (old w) a_o cs1) {p3:Option Addr} (ha2:GoT.R w (old w) (some v0) [.pointer p3]) {r:Bool} (hF:qdU n a_o v0=some r):RetV Tryz.prog 318 [GoT.v qF cs1,.pointer p3] w r:=by
 obtain ⟨p1,k1,p2,k2,rfl,s1,s2⟩:=qag ha1
 obtain ⟨b1,o_1,cs2,rfl,-,hr1,hc1⟩:=PtR.get ha2 rfl
 obtain ⟨p4,k3,p5,k4,rfl,s3,s4⟩:=qag hr1
 refine zV 23 Tryz.func318 rfl fun h=>zSR (qu h rfl rfl fun w1 bb1 h=>X1 7 0 h rfl (zc 0 (hc1.below h.below) rfl (zp2 rfl (qg (t:=9) hF rfl ?_ ?_))))<;>intro hF
 ·refine X1 7 0 h rfl (zc 1 (hc1.below h.below) rfl (X0 4 rfl (qg (t:=16) hF rfl ?_ ?_)))<;>intro hF
  ·exact X1 7 0 h rfl (zc 2 (hc1.below h.below) rfl (X0 5 rfl (rb h hF rfl)))
  exact X0 8 rfl (rb h hF rfl)
 exact X0 15 rfl (rb h hF rfl)
def qC (s:(List qF)) (f_0:qF):Nat→Int→Option (Flow Int Int)
 | 0,_=>none
 | n+1,i1 =>
  bif decide (i1<(s.length:Int)) then
   (idx s i1).bind fun y1 =>
   (qdU n y1 f_0).bind fun r1 =>
   bif r1 then some (.ret i1) else
   qC s f_0 n (W64 (i1+1))
  else
   some (.nxt i1)
def qaD (n:Nat) (s:(List qF)) (f_0:qF):Option Int :=
 (qC s f_0 n 0).bind fun o=>match o with
 | .ret r=>some r
 | .nxt _ =>
  some (-1)
theorem qdp {s:(List qF)} {f_0:qF} (ha1:GoT.R w (old w) s cs1) {p2:Option Addr} (ha2:GoT.R w (old w) (some f_0) [.pointer p2]) {r:Int} (hF:qaD n s f_0=some r):RetV Tryz.prog 180 [GoT.v (List qF) cs1,.func (.func 318) #[] #[.pointer p2]] w r:=by
 obtain ⟨p1,k1,rfl,s1⟩:=ha1
 obtain ⟨b1,o_1,cs2,rfl,-,hr1,hc1⟩:=PtR.get ha2 rfl
 obtain ⟨p3,k2,p4,k3,rfl,s2,s3⟩:=qag hr1
 refine zV 19 Tryz.func180 rfl fun h=>X0 11 rfl ?_
 obtain ⟨o1,hF,hK1⟩:=qf hF
 refine ql (rL (fun m e w'=>∃ (i1:Int),qC s f_0 m i1=some o1∧e=[(0,.slice p1 s.length k1),(1,.func (.func 318) #[] #[.pointer (some ⟨b1,o_1,none⟩)]),(7,.int .i64 (s.length:Int)),(8,.int .i64 i1)]∧SH w w' []) n ⟨_,hF,rfl,h⟩ rfl ?_)
 rintro m1 e1 w1 ⟨i1,hF,rfl,h⟩
 rcases m1 with _|m1
 ·cases hF
 refine X0 5 rfl (qh rfl hF ?_ ?_)<;>intro hF
 ·refine X0 13 rfl ?_
  obtain ⟨y1,hy1,hF,he1,b2,_,q1,cs3,hp1,hq1,hr2,hc3⟩:=s1.ix hF
  obtain ⟨p5,k4,p6,k5,rfl,s4,s5⟩:=qag hr2
  refine zxe hp1 hq1 he1 rfl (zc 0 (hc3.below h.below) rfl (zcB h hF (qjy (qfN y1 (h.oldS s4) (h.oldS s5)) (h.old ha2)) rfl fun r1 w2 h hF=>qdj (qh rfl hF ?_ ?_)))<;>intro hF
  ·refine X0 5 rfl ?_
   obtain rfl:=qa hF;replace hF:=hK1
   exact ri h hF rfl
  exact X0 6 rfl (rK ⟨_,hF,rfl,h⟩ rfl)
 refine qr rfl ?_
 obtain rfl:=qa hF;replace hF:=hK1
 exact X0 4 rfl (ri h hF rfl)
def qW (n:Nat) (s:(List qF)) (f_0:qF):Option Bool :=
 (qaD n s f_0).bind fun r1 =>
 some (decide (r1 ≥ 0))
theorem qcY {s:(List qF)} {f_0:qF} (ha1:GoT.R w (old w) s cs1) {p2:Option Addr} (ha2:GoT.R w (old w) (some f_0) [.pointer p2]) {r:Bool} (hF:qW n s f_0=some r):RetV Tryz.prog 317 [GoT.v (List qF) cs1,.func (.func 318) #[] #[.pointer p2]] w r:=by
 obtain ⟨p1,k1,rfl,s1⟩:=ha1
 obtain ⟨b1,o_1,cs2,rfl,-,hr1,hc1⟩:=PtR.get ha2 rfl
 obtain ⟨p3,k2,p4,k3,rfl,s2,s3⟩:=qag hr1
 exact zV 9 Tryz.func317 rfl fun h=>X0 8 rfl (zcI h hF (qdp ⟨_,_,rfl,(h.oldS s1)⟩ (h.old ha2)) rfl fun r1 w1 h hF=>X0 3 rfl (rb h hF rfl))
def qbA (c:qp):Nat→Int→Option (Flow Bool Int)
 | 0,_=>none
 | n+1,i1 =>
  bif decide (i1<(c.Aj.length:Int)) then
   (idx c.Aj i1).bind fun y1 =>
   (qfV n c y1).bind fun r1 =>
   bif (!r1) then some (.ret false) else
   (subS c.Aj 0 i1).bind fun x1 =>
   (qW n x1 y1).bind fun r2 =>
   bif r2 then some (.ret false) else
   qbA c n (W64 (i1+1))
  else
   some (.nxt i1)
def qeV (n:Nat) (c:qp):Option Bool :=
 (qbA c n 0).bind fun o=>match o with
 | .ret r=>some r
 | .nxt _ =>
  some (decide ((c.Aj.length:Int)≤8))
theorem qj1 {c:qp} (ha1:GoT.R w (old w) c cs1) {r:Bool} (hF:qeV n c=some r):RetV Tryz.prog 299 [GoT.v qp cs1] w r:=by
 obtain ⟨p1,k1,p2,k2,p3,k3,rfl,s1,s2,s3⟩:=qU ha1
 refine zV 30 Tryz.func299 rfl fun h=>zSR (qu h rfl rfl fun w1 bb1 h=>X1 10 0 h rfl ?_)
 obtain ⟨o1,hF,hK1⟩:=qf hF
 refine ql (rL (fun m e w'=>∃ (i1:Int),qbA c m i1=some o1∧e=[(1,.pointer (some ⟨bb1,0,none⟩)),(6,.slice p2 c.Aj.length k2),(7,.int .i64 (c.Aj.length:Int)),(8,.int .i64 i1)]∧SH w w' [Ch.box bb1 (qcQ c p1 p2 p3 k1 k2 k3) 251]) n ⟨_,hF,rfl,h⟩ rfl ?_)
 rintro m1 e1 w2 ⟨i1,hF,rfl,h⟩
 rcases m1 with _|m1
 ·cases hF
 refine X0 5 rfl (qh rfl hF ?_ ?_)<;>intro hF
 ·refine X0 6 rfl ?_
  obtain ⟨y1,hy1,hF,he1,b1,_,q1,cs2,hp1,hq1,hr1,hc2⟩:=s2.ix hF
  obtain ⟨p4,k4,p5,k5,rfl,s4,s5⟩:=qag hr1
  refine zxe hp1 hq1 he1 rfl (zc 0 (hc2.below h.below) rfl (qx qb h rfl rfl rfl fun w3 bb2 h=>zp1 rfl (zs 0 h rfl fun w4 h=>X2 5 1 0 h rfl (zcB h hF (qk4 (h.old ha1) (qfN y1 (h.oldS s4) (h.oldS s5))) rfl fun r1 w5 h hF=>zp2 rfl (qg (t:=17) hF rfl ?_ ?_)))))<;>intro hF
  ·refine X0 8 rfl (qb2 rfl rfl (X0 4 rfl ?_))
   obtain rfl:=qa hF;replace hF:=hK1
   exact rb h hF rfl
  refine X1 7 1 h rfl ?_
  obtain ⟨x1,hx1,hF⟩:=qf hF
  obtain ⟨p6,k6,hp2,hk1,hl1,g1⟩:=qsX (h.oldS s2) hx1
  refine r_v (qpH qb rfl rfl rfl (qsx g1 rfl) hp2 hk1 hl1 rfl rfl rfl rfl) rfl ?_
  have s6:=qsm s2 hx1 hp2 hk1
  refine X0 3 rfl (zcB h hF (qcY ⟨_,_,rfl,(h.oldS s6)⟩ (qiw (x:=y1) 0 h rfl (qfN y1 (h.oldS s4) (h.oldS s5)))) rfl fun r2 w6 h hF=>X0 2 rfl (qh rfl hF ?_ ?_))<;>intro hF
  ·refine X0 4 rfl ?_
   obtain rfl:=qa hF;replace hF:=hK1
   exact rb h hF rfl
  refine X0 6 rfl ?_
  replace h:=h.pick [1] rfl
  exact rK ⟨_,hF,rfl,h⟩ rfl
 refine qr rfl ?_
 obtain rfl:=qa hF;replace hF:=hK1
 exact X1 8 0 h rfl (rb h hF rfl)
def qhx (_:Nat) (a:qF) (v0:Int):Option Bool :=
 some (a.Ay==v0)
theorem qkP {a:qF} {v0:Int} (ha1:GoT.R w (old w) a cs1) {p3:Option Addr} (ha2:GoT.R w (old w) (some v0) [.pointer p3]) {r:Bool} (hF:qhx n a v0=some r):RetV Tryz.prog 333 [GoT.v qF cs1,.pointer p3] w r:=by
 obtain ⟨p1,k1,p2,k2,rfl,s1,s2⟩:=qag ha1
 obtain ⟨b1,o_1,cs2,rfl,-,hr1,hc1⟩:=PtR.get ha2 rfl
 obtain rfl:=hr1
 exact zV 8 Tryz.func333 rfl fun h=>zSR (qu h rfl rfl fun w1 bb1 h=>X1 6 0 h rfl (zc 0 (hc1.below h.below) rfl (X0 3 rfl (rb h hF rfl))))
def qI (s:(List qF)) (f_0:Int):Nat→Int→Option (Flow Int Int)
 | 0,_=>none
 | n+1,i1 =>
  bif decide (i1<(s.length:Int)) then
   (idx s i1).bind fun y1 =>
   (qhx n y1 f_0).bind fun r1 =>
   bif r1 then some (.ret i1) else
   qI s f_0 n (W64 (i1+1))
  else
   some (.nxt i1)
def qa2 (n:Nat) (s:(List qF)) (f_0:Int):Option Int :=
 (qI s f_0 n 0).bind fun o=>match o with
 | .ret r=>some r
 | .nxt _ =>
  some (-1)
theorem qdZ {s:(List qF)} {f_0:Int} (ha1:GoT.R w (old w) s cs1) {p2:Option Addr} (ha2:GoT.R w (old w) (some f_0) [.pointer p2]) {r:Int} (hF:qa2 n s f_0=some r):RetV Tryz.prog 180 [GoT.v (List qF) cs1,.func (.func 333) #[] #[.pointer p2]] w r:=by
 obtain ⟨p1,k1,rfl,s1⟩:=ha1
 obtain ⟨b1,o_1,cs2,rfl,-,hr1,hc1⟩:=PtR.get ha2 rfl
 obtain rfl:=hr1
 refine zV 19 Tryz.func180 rfl fun h=>X0 11 rfl ?_
 obtain ⟨o1,hF,hK1⟩:=qf hF
 refine ql (rL (fun m e w'=>∃ (i1:Int),qI s f_0 m i1=some o1∧e=[(0,.slice p1 s.length k1),(1,.func (.func 333) #[] #[.pointer (some ⟨b1,o_1,none⟩)]),(7,.int .i64 (s.length:Int)),(8,.int .i64 i1)]∧SH w w' []) n ⟨_,hF,rfl,h⟩ rfl ?_)
 rintro m1 e1 w1 ⟨i1,hF,rfl,h⟩
 rcases m1 with _|m1
 ·cases hF
 refine X0 5 rfl (qh rfl hF ?_ ?_)<;>intro hF
 ·refine X0 13 rfl ?_
  obtain ⟨y1,hy1,hF,he1,b2,_,q1,cs3,hp1,hq1,hr2,hc3⟩:=s1.ix hF
  obtain ⟨p3,k2,p4,k3,rfl,s2,s3⟩:=qag hr2
  refine zxe hp1 hq1 he1 rfl (zc 0 (hc3.below h.below) rfl (zcB h hF (qkP (qfN y1 (h.oldS s2) (h.oldS s3)) (h.old ha2)) rfl fun r1 w2 h hF=>qdj (qh rfl hF ?_ ?_)))<;>intro hF
  ·refine X0 5 rfl ?_
   obtain rfl:=qa hF;replace hF:=hK1
   exact ri h hF rfl
  exact X0 6 rfl (rK ⟨_,hF,rfl,h⟩ rfl)
 refine qr rfl ?_
 obtain rfl:=qa hF;replace hF:=hK1
 exact X0 4 rfl (ri h hF rfl)
def qaO (n:Nat) (s:(List qF)) (f_0:Int):Option Bool :=
 (qa2 n s f_0).bind fun r1 =>
 some (decide (r1 ≥ 0))
theorem qdN {s:(List qF)} {f_0:Int} (ha1:GoT.R w (old w) s cs1) {p2:Option Addr} (ha2:GoT.R w (old w) (some f_0) [.pointer p2]) {r:Bool} (hF:qaO n s f_0=some r):RetV Tryz.prog 317 [GoT.v (List qF) cs1,.func (.func 333) #[] #[.pointer p2]] w r:=by
 obtain ⟨p1,k1,rfl,s1⟩:=ha1
 obtain ⟨b1,o_1,cs2,rfl,-,hr1,hc1⟩:=PtR.get ha2 rfl
 obtain rfl:=hr1
 exact zV 9 Tryz.func317 rfl fun h=>X0 8 rfl (zcI h hF (qdZ ⟨_,_,rfl,(h.oldS s1)⟩ (h.old ha2)) rfl fun r1 w1 h hF=>X0 3 rfl (rb h hF rfl))
def qcc (n:Nat) (c:qp) (kind:Int):Option Bool :=
 (qaO n c.Aj kind).bind fun r1 =>
 some r1
theorem qc3 {c:qp} {kind:Int} (ha1:GoT.R w (old w) c cs1) {r:Bool} (hF:qcc n c kind=some r):RetV Tryz.prog 319 [GoT.v qp cs1,.int .i64 kind] w r:=by
 obtain ⟨p1,k1,p2,k2,p3,k3,rfl,s1,s2,s3⟩:=qU ha1
 exact zV 9 Tryz.func319 rfl fun h=>zSR (qu h rfl rfl fun w1 bb1 h=>qu h rfl rfl fun w2 bb2 h=>X1 7 1 h rfl (zcB h hF (qdN ⟨_,_,rfl,(h.oldS s2)⟩ (qiw (x:=kind) 0 h rfl rfl)) rfl fun r1 w3 h hF=>X0 2 rfl (rb h hF rfl)))
def qaF (a_0:qp):Nat→Int→Int→Option (Int × Int)
 | 0,_,_=>none
 | n+1,i1,i2 =>
  bif decide (i2<(a_0.Am.length:Int)) then
   (idx a_0.Am i2).bind fun y1 =>
   bif y1.Bh then qaF a_0 n (W64 (i1+1)) (W64 (i2+1)) else
   qaF a_0 n i1 (W64 (i2+1))
  else
   some (i1,i2)
def qes (n:Nat) (a_0:qp):Option Bool :=
 (qaF a_0 n 0 0).bind fun o=>match o with
 | (i1,_) =>
  bif (a_0.Ay==1) then
   bif (i1==0) then
    (qc8 n a_0).bind fun r1 =>
    (shlS 1 r1).bind fun y2 =>
    bif ((a_0.Bc.length:Int)==y2) then
     (qbO n a_0.Bc 0 1).bind fun r2 =>
     some r2
    else
     some false
   else
    some false
  else
   bif (a_0.Ay==2) then
    bif (i1==1) then
     bif ((a_0.Bc.length:Int)==0) then
      (qcc n a_0 1).bind fun r3 =>
      bif (!r3) then
       (qcc n a_0 2).bind fun r4 =>
       (qcc n a_0 3).bind fun r5 =>
       some (!(r4==r5))
      else
       some false
     else
      some false
    else
     some false
   else
    bif (a_0.Ay==3) then
     bif (i1==1) then
      bif ((a_0.Bc.length:Int)==0) then
       (qcc n a_0 1).bind fun r6 =>
       bif r6 then
        (qcc n a_0 2).bind fun r7 =>
        bif r7 then
         (qcc n a_0 3).bind fun r8 =>
         some (!r8)
        else
         some false
       else
        some false
      else
       some false
     else
      some false
    else
     some false
theorem qjK {a_0:qp} (ha1:GoT.R w (old w) a_0 cs1) {r:Bool} (hF:qes n a_0=some r):RetV Tryz.prog 300 [GoT.v qp cs1] w r:=by
 obtain ⟨p1,k1,p2,k2,p3,k3,rfl,s1,s2,s3⟩:=qU ha1
 refine zV 83 Tryz.func300 rfl fun h=>zSR (qu h rfl rfl fun w1 bb1 h=>X1 14 0 h rfl ?_)
 obtain ⟨o1,hF,hK1⟩:=qf hF
 refine ql (rL (fun m e w'=>∃ (i1:Int) (i2:Int),qaF a_0 m i1 i2=some o1∧e=[(1,.pointer (some ⟨bb1,0,none⟩)),(3,.int .i64 i1),(7,.slice p1 a_0.Am.length k1),(8,.int .i64 (a_0.Am.length:Int)),(9,.int .i64 i2)]∧SH w w' [Ch.box bb1 (qcQ a_0 p1 p2 p3 k1 k2 k3) 251]) n ⟨_,_,hF,rfl,h⟩ rfl ?_)
 rintro m1 e1 w2 ⟨i1,i2,hF,rfl,h⟩
 rcases m1 with _|m1
 ·cases hF
 refine X0 5 rfl (qh rfl hF ?_ ?_)<;>intro hF
 ·refine zKSBSR ?_
  obtain ⟨y1,hy1,hF,he1,b1,_,q1,cs2,hp1,hq1,hr1,hc2⟩:=s1.ix hF
  obtain rfl:=qau hr1
  refine zxe hp1 hq1 he1 rfl (zc 0 (hc2.below h.below) rfl (qx qb h rfl rfl rfl fun w3 bb2 h=>zs 0 h rfl fun w4 h=>X1 6 0 h rfl (qh rfl hF ?_ ?_)))<;>intro hF
  ·refine X0 10 rfl ?_
   replace h:=h.pick [1] rfl
   exact rK ⟨_,_,hF,rfl,h⟩ rfl
  refine X0 6 rfl ?_
  replace h:=h.pick [1] rfl
  exact rK ⟨_,_,hF,rfl,h⟩ rfl
 refine qr rfl ?_
 obtain rfl:=qa hF;replace hF:=hK1
 refine X1 12 0 h rfl (qh rfl hF ?_ ?_)<;>intro hF
 ·refine qej (rD (zd3 rfl (qba (t:=24) hF rfl ?_ ?_)))<;>intro hF
  ·refine Y1 4 0 h rfl ?_
   refine Y1 4 0 h rfl ?_
   refine Y0 1 rfl ?_
   obtain ⟨r1,hr2,hF⟩:=qf hF
   refine qbF r1 (vsI _) (cB 188 rfl) (fun _ hb=>qfB ((h.ext hb).old ha1) hr2) rfl rfl rfl rfl (Y0 1 rfl ?_)
   obtain ⟨y2,hx1,hF⟩:=qf hF
   obtain ⟨g1,hx1⟩:=qov hx1
   refine d_v (fun _ hb=>qt1 g1 rfl rfl) rfl ?_
   rw [hx1]
   refine Y0 4 rfl (qba (t:=33) hF rfl ?_ ?_)<;>intro hF
   ·refine Y1 4 0 h rfl ?_
    refine Y0 1 rfl ?_
    obtain ⟨r2,hr3,hF⟩:=qf hF
    exact qbF r2 (vsB _) (cB 87 rfl) (fun _ hb=>qcs ⟨_,_,rfl,((h.ext hb).oldS s3)⟩ hr3) rfl rfl rfl rfl (zd2 rfl (dN h fun w5 h=>rb h hF rfl))
   exact Y0 5 rfl (dN h fun w6 h=>rb h hF rfl)
  exact Y0 14 rfl (dN h fun w7 h=>rb h hF rfl)
 refine X0 5 rfl (qh rfl hF ?_ ?_)<;>intro hF
 ·refine qej (rD (zd3 rfl (qba (t:=42) hF rfl ?_ ?_)))<;>intro hF
  ·refine Y1 4 0 h rfl ?_
   refine Y0 6 rfl (qba (t:=48) hF rfl ?_ ?_)<;>intro hF
   ·refine Y1 2 0 h rfl ?_
    refine Y0 1 rfl ?_
    obtain ⟨r3,hr4,hF⟩:=qf hF
    refine qbF r3 (vsB _) (cB 319 rfl) (fun _ hb=>qc3 ((h.ext hb).old ha1) hr4) rfl rfl rfl rfl (Y0 4 rfl (qba (t:=53) hF rfl ?_ ?_))<;>intro hF
    ·refine Y1 2 0 h rfl ?_
     refine Y0 1 rfl ?_
     obtain ⟨r4,hr5,hF⟩:=qf hF
     refine qbF r4 (vsB _) (cB 319 rfl) (fun _ hb=>qc3 ((h.ext hb).old ha1) hr5) rfl rfl rfl rfl (Y1 2 0 h rfl ?_)
     refine Y0 1 rfl ?_
     obtain ⟨r5,hr6,hF⟩:=qf hF
     exact qbF r5 (vsB _) (cB 319 rfl) (fun _ hb=>qc3 ((h.ext hb).old ha1) hr6) rfl rfl rfl rfl (Y0 4 rfl (dN h fun w8 h=>rb h hF rfl))
    exact Y0 7 rfl (dN h fun w9 h=>rb h hF rfl)
   exact Y0 12 rfl (dN h fun w10 h=>rb h hF rfl)
  exact Y0 18 rfl (dN h fun w11 h=>rb h hF rfl)
 refine X0 5 rfl (qh rfl hF ?_ ?_)<;>intro hF
 ·refine X0 5 rfl (qg (t:=64) hF rfl ?_ ?_)<;>intro hF
  ·refine X1 10 0 h rfl (qg (t:=70) hF rfl ?_ ?_)<;>intro hF
   ·refine X1 3 0 h rfl (zcB h hF (qc3 (h.old ha1)) rfl fun r6 w12 h hF=>zp2 rfl (qg (t:=74) hF rfl ?_ ?_))<;>intro hF
    ·refine X1 3 0 h rfl (zcB h hF (qc3 (h.old ha1)) rfl fun r7 w13 h hF=>zp2 rfl (qg (t:=78) hF rfl ?_ ?_))<;>intro hF
     ·exact X1 3 0 h rfl (zcB h hF (qc3 (h.old ha1)) rfl fun r8 w14 h hF=>X0 5 rfl (rb h hF rfl))
     exact X0 6 rfl (rb h hF rfl)
    exact X0 10 rfl (rb h hF rfl)
   exact X0 14 rfl (rb h hF rfl)
  exact X0 20 rfl (rb h hF rfl)
 exact X0 6 rfl (rb h hF rfl)
def qiS (n:Nat) (c:qp):Option Bool :=
 (qhd n c.Ar).bind fun r1 =>
 bif r1 then
  (qhP n c.Am).bind fun r2 =>
  bif r2 then
   (qeV n c).bind fun r3 =>
   bif r3 then
    (qam n c.Bq 0 100000).bind fun r4 =>
    bif r4 then
     (qam n c.Bj 0 100000).bind fun r5 =>
     bif r5 then
      (qes n c).bind fun r6 =>
      some r6
     else
      some false
    else
     some false
   else
    some false
  else
   some false
 else
  some false
theorem qm7 {c:qp} (ha1:GoT.R w (old w) c cs1) {r:Bool} (hF:qiS n c=some r):RetV Tryz.prog 266 [GoT.v qp cs1] w r:=by
 obtain ⟨p1,k1,p2,k2,p3,k3,rfl,s1,s2,s3⟩:=qU ha1
 refine zV 29 Tryz.func266 rfl fun h=>zSR (qu h rfl rfl fun w1 bb1 h=>X1 6 0 h rfl (zcB h hF qka rfl fun r1 w2 h hF=>zp1 rfl (qg (t:=6) hF rfl ?_ ?_)))<;>intro hF
 ·refine X1 5 0 h rfl (zcB h hF (qmm ⟨_,_,rfl,(h.oldS s1)⟩) rfl fun r2 w3 h hF=>zp2 rfl (qg (t:=11) hF rfl ?_ ?_))<;>intro hF
  ·refine X1 3 0 h rfl (zcB h hF (qj1 (h.old ha1)) rfl fun r3 w4 h hF=>zp2 rfl (qg (t:=15) hF rfl ?_ ?_))<;>intro hF
   ·refine X1 5 0 h rfl (zcB h hF qac rfl fun r4 w5 h hF=>zp2 rfl (qg (t:=20) hF rfl ?_ ?_))<;>intro hF
    ·refine X1 5 0 h rfl (zcB h hF qac rfl fun r5 w6 h hF=>zp2 rfl (qg (t:=25) hF rfl ?_ ?_))<;>intro hF
     ·exact X1 3 0 h rfl (zcB h hF (qjK (h.old ha1)) rfl fun r6 w7 h hF=>X0 3 rfl (rb h hF rfl))
     exact X0 5 rfl (rb h hF rfl)
    exact X0 10 rfl (rb h hF rfl)
   exact X0 15 rfl (rb h hF rfl)
  exact X0 19 rfl (rb h hF rfl)
 exact X0 24 rfl (rb h hF rfl)
def qbP (l:qn):Nat→(List ByteArray)→Int→Option (Flow Bool ((List ByteArray) × Int))
 | 0,_,_=>none
 | n+1,x1,i1 =>
  bif decide (i1<(l.Ak.length:Int)) then
   (idx l.Ak i1).bind fun y1 =>
   (qiS n y1).bind fun r1 =>
   bif (!r1) then some (.ret false) else
   (appS x1 ([y1.Ar]:List ByteArray)).bind fun x2 =>
   qbP l n x2 (W64 (i1+1))
  else
   some (.nxt (x1,i1))
def qgu (n:Nat) (l:qn):Option Bool :=
 (qbP l n ([]:List ByteArray) 0).bind fun o=>match o with
 | .ret r=>some r
 | .nxt (x1,_) =>
  bif decide ((l.Ak.length:Int)≤8) then
   (qcW n x1).bind fun r2 =>
   some r2
  else
   some false
theorem qly {l:qn} (ha1:GoT.R w (old w) l cs1) {r:Bool} (hF:qgu n l=some r):RetV Tryz.prog 227 [GoT.v qn cs1] w r:=by
 obtain ⟨p1,k1,rfl,s1⟩:=qbd ha1
 refine zV 30 Tryz.func227 rfl fun h=>zSR (qu h rfl rfl fun w1 bb1 h=>X1 14 0 h rfl ?_)
 replace h:=h.nil (α:=ByteArray)
 obtain ⟨o1,hF,hK1⟩:=qf hF
 refine ql (rL (fun m e w'=>∃ (S1:Nat→Prop) (p2:Option Addr) (ln1:Nat) (k2:Nat) (x1:(List ByteArray)) (i1:Int),qbP l m x1 i1=some o1∧e=[(1,.pointer (some ⟨bb1,0,none⟩)),(3,.slice p2 ln1 k2),(7,.slice p1 l.Ak.length k1),(8,.int .i64 (l.Ak.length:Int)),(9,.int .i64 i1)]∧SH w w' [Ch.own S1 (x1:List ByteArray) [.slice p2 ln1 k2],Ch.box bb1 [.slice p1 l.Ak.length k1] 46]) n ⟨_,_,_,_,_,_,hF,rfl,h⟩ rfl ?_)
 rintro m1 e1 w2 ⟨S1,p2,ln1,k2,x1,i1,hF,rfl,h⟩
 obtain rfl:=(h.sl 0 rfl).2
 rcases m1 with _|m1
 ·cases hF
 refine X0 5 rfl (qh rfl hF ?_ ?_)<;>intro hF
 ·refine zKSBSR ?_
  obtain ⟨y1,hy1,hF,he1,b1,_,q1,cs2,hp1,hq1,hr1,hc2⟩:=s1.ix hF
  obtain ⟨p3,k3,p4,k4,p5,k5,rfl,s2,s3,s4⟩:=qU hr1
  refine zxe hp1 hq1 he1 rfl (zc 0 (hc2.below h.below) rfl (qx qb h rfl rfl rfl fun w3 bb2 h=>zs 0 h rfl fun w4 h=>X1 5 0 h rfl (zcB h hF (qm7 (qh3 y1 (h.oldS s2) (h.oldS s3) (h.oldS s4))) rfl fun r1 w5 h hF=>X0 2 rfl (qh rfl hF ?_ ?_))))<;>intro hF
  ·refine X0 4 rfl ?_
   obtain rfl:=qa hF;replace hF:=hK1
   exact rb h hF rfl
  refine X1 5 0 h rfl (qab qb [.tmp 18] _ ([y1.Ar]:List ByteArray) h rfl rfl rfl rfl rfl rfl rfl rfl rfl ⟨rfl,trivial⟩ rfl fun w6 p6 S2 h=>?_)
  obtain ⟨x2,hx1,hF⟩:=qf hF
  obtain ⟨g1,hx1⟩:=qaY hx1
  refine qd1 qb 2 h rfl (h.sl 0 rfl).1 (h.sl 0 rfl).2 rfl rfl rfl rfl rfl rfl rfl rfl rfl g1 hx1 rfl fun w7 p7 k6 S3 h=>X0 7 rfl ?_
  replace h:=h.pick [2,3] rfl
  exact rK ⟨_,_,_,_,_,_,hF,rfl,h⟩ rfl
 refine qr rfl ?_
 obtain rfl:=qa hF;replace hF:=hK1
 refine X1 7 1 h rfl (qg (t:=26) hF rfl ?_ ?_)<;>intro hF
 ·exact X0 3 rfl (zcB h hF (qei (h.own 0 rfl)) rfl fun r2 w8 h hF=>X0 3 rfl (rb h hF rfl))
 exact X0 5 rfl (rb h hF rfl)
def qaK (d:qc):Nat→(List ByteArray)→Int→Option ((List ByteArray) × Int)
 | 0,_,_=>none
 | n+1,x3,i2 =>
  bif decide (i2<(d.Af.length:Int)) then
   (idx d.Af i2).bind fun y2 =>
   (appS x3 ([y2.Ar]:List ByteArray)).bind fun x4 =>
   qaK d n x4 (W64 (i2+1))
  else
   some (x3,i2)
def qaL (d:qc):Nat→(List ByteArray)→Int→Option ((List ByteArray) × Int)
 | 0,_,_=>none
 | n+1,x1,i1 =>
  bif decide (i1<(d.Aa.length:Int)) then
   (idx d.Aa i1).bind fun y1 =>
   (appS x1 ([y1.Ar]:List ByteArray)).bind fun x2 =>
   qaL d n x2 (W64 (i1+1))
  else
   some (x1,i1)
def qdE (n:Nat) (d:qc):Option Bool :=
 (qaL d n ([]:List ByteArray) 0).bind fun o=>match o with
 | (x1,_) =>
  (qaK d n ([]:List ByteArray) 0).bind fun o=>match o with
  | (x3,_) =>
   bif decide ((x1.length:Int)≤14) then
    bif decide ((d.Ah.length:Int)≤30) then
     bif decide ((x3.length:Int)≤8) then
      (qcW n x1).bind fun r1 =>
      bif r1 then
       (qcW n d.Ah).bind fun r2 =>
       bif r2 then
        (qcW n x3).bind fun r3 =>
        some r3
       else
        some false
      else
       some false
     else
      some false
    else
     some false
   else
    some false
theorem qje {d:qc} (ha1:GoT.R w (old w) d cs1) {r:Bool} (hF:qdE n d=some r):RetV Tryz.prog 228 [GoT.v qc cs1] w r:=by
 obtain ⟨p1,k1,p2,k2,p3,k3,rfl,s1,s2,s3⟩:=qad ha1
 refine zV 62 Tryz.func228 rfl fun h=>zSR (qu h rfl rfl fun w1 bb1 h=>X1 15 0 h rfl ?_)
 replace h:=h.nil (α:=ByteArray)
 obtain ⟨o1,hF,hK1⟩:=qf hF
 refine ql (rL (fun m e w'=>∃ (S1:Nat→Prop) (p4:Option Addr) (ln1:Nat) (k4:Nat) (x1:(List ByteArray)) (i1:Int),qaL d m x1 i1=some o1∧e=[(1,.pointer (some ⟨bb1,0,none⟩)),(3,.slice p4 ln1 k4),(4,.slice none 0 0),(10,.slice p1 d.Aa.length k1),(11,.int .i64 (d.Aa.length:Int)),(12,.int .i64 i1)]∧SH w w' [Ch.own S1 (x1:List ByteArray) [.slice p4 ln1 k4],Ch.box bb1 (qaN d p1 p2 p3 k1 k2 k3) 50]) n ⟨_,_,_,_,_,_,hF,rfl,h⟩ rfl ?_)
 rintro m1 e1 w2 ⟨S1,p4,ln1,k4,x1,i1,hF,rfl,h⟩
 obtain rfl:=(h.sl 0 rfl).2
 rcases m1 with _|m1
 ·cases hF
 refine X0 5 rfl (qh rfl hF ?_ ?_)<;>intro hF
 ·refine zKSBSR ?_
  obtain ⟨y1,hy1,hF,he1,b1,_,q1,cs2,hp1,hq1,hr1,hc2⟩:=s1.ix hF
  obtain ⟨p5,k5,rfl,s4⟩:=qM hr1
  refine zxe hp1 hq1 he1 rfl (zc 0 (hc2.below h.below) rfl (qx qb h rfl rfl rfl fun w3 bb2 h=>zs 0 h rfl fun w4 h=>X1 5 0 h rfl (qab qb [.tmp 18] _ ([y1.Ar]:List ByteArray) h rfl rfl rfl rfl rfl rfl rfl rfl rfl ⟨rfl,trivial⟩ rfl fun w5 p6 S2 h=>?_)))
  obtain ⟨x2,hx1,hF⟩:=qf hF
  obtain ⟨g1,hx1⟩:=qaY hx1
  refine qd1 qb 2 h rfl (h.sl 0 rfl).1 (h.sl 0 rfl).2 rfl rfl rfl rfl rfl rfl rfl rfl rfl g1 hx1 rfl fun w6 p7 k6 S3 h=>X0 7 rfl ?_
  replace h:=h.pick [2,3] rfl
  exact rK ⟨_,_,_,_,_,_,hF,rfl,h⟩ rfl
 refine qr rfl ?_
 obtain rfl:=qa hF;replace hF:=hK1
 refine X1 8 1 h rfl ?_
 replace h:=h.nil (α:=ByteArray)
 obtain ⟨o2,hF,hK2⟩:=qf hF
 refine ql (rL (fun m e w'=>∃ (S4:Nat→Prop) (p8:Option Addr) (ln2:Nat) (k7:Nat) (x3:(List ByteArray)) (i2:Int),qaK d m x3 i2=some o2∧e=[(1,.pointer (some ⟨bb1,0,none⟩)),(3,.slice p4 x1.length k4),(4,.slice p8 ln2 k7),(23,.slice p3 d.Af.length k3),(24,.int .i64 (d.Af.length:Int)),(25,.int .i64 i2)]∧SH w w' [Ch.own S4 (x3:List ByteArray) [.slice p8 ln2 k7],Ch.own S1 (x1:List ByteArray) [.slice p4 x1.length k4],Ch.box bb1 (qaN d p1 p2 p3 k1 k2 k3) 50]) n ⟨_,_,_,_,_,_,hF,rfl,h⟩ rfl ?_)
 rintro m2 e2 w7 ⟨S4,p8,ln2,k7,x3,i2,hF,rfl,h⟩
 obtain rfl:=(h.sl 0 rfl).2
 rcases m2 with _|m2
 ·cases hF
 refine X0 5 rfl (qh rfl hF ?_ ?_)<;>intro hF
 ·refine zKSBSR ?_
  obtain ⟨y2,hy2,hF,he2,b2,_,q2,cs3,hp2,hq2,hr2,hc4⟩:=s3.ix hF
  obtain rfl:=qak hr2
  refine zxe hp2 hq2 he2 rfl (zc 0 (hc4.below h.below) rfl (qx qb h rfl rfl rfl fun w8 bb3 h=>zs 0 h rfl fun w9 h=>X1 5 0 h rfl (qab qb [.tmp 31] _ ([y2.Ar]:List ByteArray) h rfl rfl rfl rfl rfl rfl rfl rfl rfl ⟨rfl,trivial⟩ rfl fun w10 p9 S5 h=>?_)))
  obtain ⟨x4,hx2,hF⟩:=qf hF
  obtain ⟨g2,hx2⟩:=qaY hx2
  refine qd1 qb 2 h rfl (h.sl 0 rfl).1 (h.sl 0 rfl).2 rfl rfl rfl rfl rfl rfl rfl rfl rfl g2 hx2 rfl fun w11 p10 k8 S6 h=>X0 7 rfl ?_
  replace h:=h.pick [2,3,4] rfl
  exact rK ⟨_,_,_,_,_,_,hF,rfl,h⟩ rfl
 refine qr rfl ?_
 obtain rfl:=qa hF;replace hF:=hK2
 refine X0 6 rfl (qg (t:=38) hF rfl ?_ ?_)<;>intro hF
 ·refine X1 10 2 h rfl (qg (t:=44) hF rfl ?_ ?_)<;>intro hF
  ·refine X0 8 rfl (qg (t:=49) hF rfl ?_ ?_)<;>intro hF
   ·refine X0 3 rfl (zcB h hF (qei (h.own 1 rfl)) rfl fun r1 w12 h hF=>zp2 rfl (qg (t:=53) hF rfl ?_ ?_))<;>intro hF
    ·refine X1 5 2 h rfl (zcB h hF (qei ⟨_,_,rfl,(h.oldS s2)⟩) rfl fun r2 w13 h hF=>zp2 rfl (qg (t:=58) hF rfl ?_ ?_))<;>intro hF
     ·exact X0 3 rfl (zcB h hF (qei (h.own 0 rfl)) rfl fun r3 w14 h hF=>X0 3 rfl (rb h hF rfl))
     exact X0 5 rfl (rb h hF rfl)
    exact X0 10 rfl (rb h hF rfl)
   exact X0 14 rfl (rb h hF rfl)
  exact X0 19 rfl (rb h hF rfl)
 exact X0 25 rfl (rb h hF rfl)
def qeT (_:Nat) (list:(List qp)):Option Int :=
 some (list.length:Int)
theorem qiV {list:(List qp)} (ha1:GoT.R w (old w) list cs1) {r:Int} (hF:qeT n list=some r):RetV Tryz.prog 268 [GoT.v (List qp) cs1] w r:=by
 obtain ⟨p1,k1,rfl,s1⟩:=ha1
 exact zV 5 Tryz.func268 rfl fun h=>X0 10 rfl (ri h hF rfl)
def qcd (n:Nat) (net:Int) (v0:qc):Option Bool :=
 (qbm n v0 net).bind fun r1 =>
 some (!r1)
theorem qhM {net:Int} {v0:qc} {p1:Option Addr} (ha1:GoT.R w (old w) (some v0) [.pointer p1]) {r:Bool} (hF:qcd n net v0=some r):RetV Tryz.prog 269 [.int .i64 net,.pointer p1] w r:=by
 obtain ⟨b1,o_1,cs1,rfl,-,hr1,hc1⟩:=PtR.get ha1 rfl
 obtain ⟨p2,k1,p3,k2,p4,k3,rfl,s1,s2,s3⟩:=qad hr1
 exact zV 8 Tryz.func269 rfl fun h=>X0 6 rfl (zc 0 (hc1.below h.below) rfl (zp1 rfl (zcB h hF (qch (qaG v0 (h.oldS s1) (h.oldS s2) (h.oldS s3))) rfl fun r1 w1 h hF=>X0 3 rfl (rb h hF rfl))))
def qy (s:(List Int)) (f_0:qc):Nat→Int→Option (Flow Int Int)
 | 0,_=>none
 | n+1,i1 =>
  bif decide (i1<(s.length:Int)) then
   (idx s i1).bind fun y1 =>
   (qcd n y1 f_0).bind fun r1 =>
   bif r1 then some (.ret i1) else
   qy s f_0 n (W64 (i1+1))
  else
   some (.nxt i1)
def qav (n:Nat) (s:(List Int)) (f_0:qc):Option Int :=
 (qy s f_0 n 0).bind fun o=>match o with
 | .ret r=>some r
 | .nxt _ =>
  some (-1)
theorem qdg {s:(List Int)} {f_0:qc} (ha1:GoT.R w (old w) s cs1) {p2:Option Addr} (ha2:GoT.R w (old w) (some f_0) [.pointer p2]) {r:Int} (hF:qav n s f_0=some r):RetV Tryz.prog 159 [GoT.v (List Int) cs1,.func (.func 269) #[] #[.pointer p2]] w r:=by
 obtain ⟨p1,k1,rfl,s1⟩:=ha1
 obtain ⟨b1,o_1,cs2,rfl,-,hr1,hc1⟩:=PtR.get ha2 rfl
 obtain ⟨p3,k2,p4,k3,p5,k4,rfl,s2,s3,s4⟩:=qad hr1
 refine zV 19 Tryz.func159 rfl fun h=>X0 11 rfl ?_
 obtain ⟨o1,hF,hK1⟩:=qf hF
 refine ql (rL (fun m e w'=>∃ (i1:Int),qy s f_0 m i1=some o1∧e=[(0,.slice p1 s.length k1),(1,.func (.func 269) #[] #[.pointer (some ⟨b1,o_1,none⟩)]),(7,.int .i64 (s.length:Int)),(8,.int .i64 i1)]∧SH w w' []) n ⟨_,hF,rfl,h⟩ rfl ?_)
 rintro m1 e1 w1 ⟨i1,hF,rfl,h⟩
 rcases m1 with _|m1
 ·cases hF
 refine X0 5 rfl (qh rfl hF ?_ ?_)<;>intro hF
 ·refine X0 13 rfl ?_
  obtain ⟨y1,hy1,hF,he1,b2,_,q1,cs3,hp1,hq1,rfl,hc3⟩:=s1.ix hF
  refine zxe hp1 hq1 he1 rfl (zc 0 (hc3.below h.below) rfl (zcB h hF (qhM (h.old ha2)) rfl fun r1 w2 h hF=>qdj (qh rfl hF ?_ ?_)))<;>intro hF
  ·refine X0 5 rfl ?_
   obtain rfl:=qa hF;replace hF:=hK1
   exact ri h hF rfl
  exact X0 6 rfl (rK ⟨_,hF,rfl,h⟩ rfl)
 refine qr rfl ?_
 obtain rfl:=qa hF;replace hF:=hK1
 exact X0 4 rfl (ri h hF rfl)
def qaj (n:Nat) (s:(List Int)) (f_0:qc):Option Bool :=
 (qav n s f_0).bind fun r1 =>
 some (decide (r1 ≥ 0))
theorem qcK {s:(List Int)} {f_0:qc} (ha1:GoT.R w (old w) s cs1) {p2:Option Addr} (ha2:GoT.R w (old w) (some f_0) [.pointer p2]) {r:Bool} (hF:qaj n s f_0=some r):RetV Tryz.prog 80 [GoT.v (List Int) cs1,.func (.func 269) #[] #[.pointer p2]] w r:=by
 obtain ⟨p1,k1,rfl,s1⟩:=ha1
 obtain ⟨b1,o_1,cs2,rfl,-,hr1,hc1⟩:=PtR.get ha2 rfl
 obtain ⟨p3,k2,p4,k3,p5,k4,rfl,s2,s3,s4⟩:=qad hr1
 exact zV 9 Tryz.func80 rfl fun h=>X0 8 rfl (zcI h hF (qdg ⟨_,_,rfl,(h.oldS s1)⟩ (h.old ha2)) rfl fun r1 w1 h hF=>X0 3 rfl (rb h hF rfl))
def qcS (n:Nat) (d:qc) (l:qn) (x:qd):Option Bool :=
 (qeT n l.Ak).bind fun r1 =>
 (qam n x.Bl 0 (W64 (r1-1))).bind fun r2 =>
 bif r2 then
  (idx l.Ak x.Bl).bind fun y1 =>
  bif ((x.Ah.length:Int)==(y1.Am.length:Int)) then
   (qaj n x.Ah d).bind fun r3 =>
   some (!r3)
  else
   some false
 else
  some false
theorem qiA {d:qc} {l:qn} {x:qd} (ha1:GoT.R w (old w) d cs1) (ha2:GoT.R w (old w) l cs2) (ha3:GoT.R w (old w) x cs3) {r:Bool} (hF:qcS n d l x=some r):RetV Tryz.prog 229 [GoT.v qc cs1,GoT.v qn cs2,GoT.v qd cs3] w r:=by
 obtain ⟨p1,k1,p2,k2,p3,k3,rfl,s1,s2,s3⟩:=qad ha1
 obtain ⟨p4,k4,rfl,s4⟩:=qbd ha2
 obtain ⟨p5,k5,rfl,s5⟩:=qM ha3
 refine zV 35 Tryz.func229 rfl fun h=>zSR (qu h rfl rfl fun w1 bb1 h=>qu h rfl rfl fun w2 bb2 h=>qu h rfl rfl fun w3 bb3 h=>X0 3 rfl (rD (Y1 2 0 h rfl ?_)))
 refine Y1 2 1 h rfl ?_
 obtain ⟨r1,hr1,hF⟩:=qf hF
 refine qbF r1 (vsI _) (cB 268 rfl) (fun _ hb=>qiV ⟨_,_,rfl,((h.ext hb).oldS s4)⟩ hr1) rfl rfl rfl rfl (zd1 rfl ?_)
 obtain ⟨r2,hr2,hF⟩:=qf hF
 refine qbF r2 (vsB _) (cB 103 rfl) (fun _ hb=>qac  hr2) rfl rfl rfl rfl (zd1 rfl (qba (t:=14) hF rfl ?_ ?_))<;>intro hF
 ·refine Y1 4 0 h rfl ?_
  refine Y1 6 1 h rfl ?_
  refine Y1 4 0 h rfl ?_
  refine Y0 1 rfl ?_
  obtain ⟨y1,hy1,hF,he1,b1,_,q1,cs4,hp1,hq1,hr3,hc1⟩:=s4.ix hF
  obtain ⟨p6,k6,p7,k7,p8,k8,rfl,s6,s7,s8⟩:=qU hr3
  refine zdxe hp1 hq1 he1 rfl (Y0 3 rfl (zdc 2 (hc1.below h.below) rfl (Y0 6 rfl (qba (t:=28) hF rfl ?_ ?_))))<;>intro hF
  ·refine Y1 4 0 h rfl ?_
   refine Y0 3 rfl ?_
   obtain ⟨r3,hr4,hF⟩:=qf hF
   exact qbF r3 (vsB _) (cB 80 rfl) (fun _ hb=>qcK ⟨_,_,rfl,((h.ext hb).oldS s5)⟩ (qiw (x:=d) 2 (h.ext hb) rfl ((h.ext hb).old ha1)) hr4) rfl rfl rfl rfl (Y0 4 rfl (dN h fun w4 h=>rb h hF rfl))
  exact Y0 7 rfl (dN h fun w5 h=>rb h hF rfl)
 exact Y0 21 rfl (dN h fun w6 h=>rb h hF rfl)
def qhw (_:Nat) (a_n:Int):Option Bool :=
 some (a_n != 1)
theorem qk5 {a_n:Int}  {r:Bool} (hF:qhw n a_n=some r):RetV Tryz.prog 231 [.int .i64 a_n] w r:=by
 exact zV 5 Tryz.func231 rfl fun h=>X0 10 rfl (rb h hF rfl)
def qT (s:(List Int)):Nat→Int→Option (Flow Int Int)
 | 0,_=>none
 | n+1,i1 =>
  bif decide (i1<(s.length:Int)) then
   (idx s i1).bind fun y1 =>
   (qhw n y1).bind fun r1 =>
   bif r1 then some (.ret i1) else
   qT s n (W64 (i1+1))
  else
   some (.nxt i1)
def qbl (n:Nat) (s:(List Int)):Option Int :=
 (qT s n 0).bind fun o=>match o with
 | .ret r=>some r
 | .nxt _ =>
  some (-1)
theorem qe4 {s:(List Int)} (ha1:GoT.R w (old w) s cs1) {r:Int} (hF:qbl n s=some r):RetV Tryz.prog 270 [GoT.v (List Int) cs1,.func (.func 231) #[] #[]] w r:=by
 obtain ⟨p1,k1,rfl,s1⟩:=ha1
 refine zV 19 Tryz.func270 rfl fun h=>X0 11 rfl ?_
 obtain ⟨o1,hF,hK1⟩:=qf hF
 refine ql (rL (fun m e w'=>∃ (i1:Int),qT s m i1=some o1∧e=[(0,.slice p1 s.length k1),(1,.func (.func 231) #[] #[]),(7,.int .i64 (s.length:Int)),(8,.int .i64 i1)]∧SH w w' []) n ⟨_,hF,rfl,h⟩ rfl ?_)
 rintro m1 e1 w1 ⟨i1,hF,rfl,h⟩
 rcases m1 with _|m1
 ·cases hF
 refine X0 5 rfl (qh rfl hF ?_ ?_)<;>intro hF
 ·refine X0 13 rfl ?_
  obtain ⟨y1,hy1,hF,he1,b1,_,q1,cs2,hp1,hq1,rfl,hc2⟩:=s1.ix hF
  refine zxe hp1 hq1 he1 rfl (zc 0 (hc2.below h.below) rfl (zcB h hF qk5 rfl fun r1 w2 h hF=>qdj (qh rfl hF ?_ ?_)))<;>intro hF
  ·refine X0 5 rfl ?_
   obtain rfl:=qa hF;replace hF:=hK1
   exact ri h hF rfl
  exact X0 6 rfl (rK ⟨_,hF,rfl,h⟩ rfl)
 refine qr rfl ?_
 obtain rfl:=qa hF;replace hF:=hK1
 exact X0 4 rfl (ri h hF rfl)
def qa9 (n:Nat) (s:(List Int)):Option Bool :=
 (qbl n s).bind fun r1 =>
 some (decide (r1 ≥ 0))
theorem qey {s:(List Int)} (ha1:GoT.R w (old w) s cs1) {r:Bool} (hF:qa9 n s=some r):RetV Tryz.prog 230 [GoT.v (List Int) cs1,.func (.func 231) #[] #[]] w r:=by
 obtain ⟨p1,k1,rfl,s1⟩:=ha1
 exact zV 9 Tryz.func230 rfl fun h=>X0 8 rfl (zcI h hF (qe4 ⟨_,_,rfl,(h.oldS s1)⟩) rfl fun r1 w1 h hF=>X0 3 rfl (rb h hF rfl))
def qbz (a_1:qc):Nat→(List Int)→Int→Option (Flow Bool ((List Int) × Int))
 | 0,_,_=>none
 | n+1,x3,i2 =>
  bif decide (i2<(a_1.Af.length:Int)) then
   (idx a_1.Af i2).bind fun y5 =>
   (
    bif (y5.Bm != 1) then
     bif (y5.Bm != 2) then some true else
     (qbm n a_1 y5.Bp).bind fun r2 =>
     some (!r2)
    else
     (qbm n a_1 y5.Bp).bind fun r3 =>
     some (!r3)).bind fun b7 =>
   bif b7 then some (.ret false) else
   bif (y5.Bm==1) then
    (idx x3 y5.Bp).bind fun y6 =>
    (idx x3 y5.Bp).bind fun _ =>
    qbz a_1 n (setS x3 y5.Bp (W64 (y6+1))) (W64 (i2+1))
   else
    qbz a_1 n x3 (W64 (i2+1))
  else
   some (.nxt (x3,i2))
def qb7 (a_0:qn) (a_1:qc):Nat→(List Int)→Int→Option (Flow Bool ((List Int) × Int))
 | 0,_,_=>none
 | n+1,x2,i1 =>
  bif decide (i1<(a_1.Aa.length:Int)) then
   (idx a_1.Aa i1).bind fun y1 =>
   (qcS n a_1 a_0 y1).bind fun r1 =>
   bif (!r1) then some (.ret false) else
   (idx y1.Ah (W64 ((y1.Ah.length:Int)-1))).bind fun y2 =>
   (idx x2 y2).bind fun y3 =>
   (idx x2 y2).bind fun _ =>
   qb7 a_0 a_1 n (setS x2 y2 (W64 (y3+1))) (W64 (i1+1))
  else
   some (.nxt (x2,i1))
def qg0 (n:Nat) (a_0:qn) (a_1:qc):Option Bool :=
 (
  (qgu n a_0).bind fun r5 =>
  bif (!r5) then some true else
  (qdE n a_1).bind fun r6 =>
  some (!r6)).bind fun b1 =>
 bif b1 then some false else
 (mkS (a_1.Ah.length:Int) (0:Int)).bind fun x1 =>
 (qb7 a_0 a_1 n x1 0).bind fun o=>match o with
 | .ret r=>some r
 | .nxt (x2,_) =>
  (qbz a_1 n x2 0).bind fun o=>match o with
  | .ret r=>some r
  | .nxt (x3,_) =>
   (qa9 n x3).bind fun r4 =>
   some (!r4)
theorem qlZ {a_0:qn} {a_1:qc} (ha1:GoT.R w (old w) a_0 cs1) (ha2:GoT.R w (old w) a_1 cs2) {r:Bool} (hF:qg0 n a_0 a_1=some r):RetV Tryz.prog 161 [GoT.v qn cs1,GoT.v qc cs2] w r:=by
 obtain ⟨p1,k1,rfl,s1⟩:=qbd ha1
 obtain ⟨p2,k2,p3,k3,p4,k4,rfl,s2,s3,s4⟩:=qad ha2
 refine zV 84 Tryz.func161 rfl fun h=>zSR (qu h rfl rfl fun w1 bb1 h=>qu h rfl rfl fun w2 bb2 h=>X0 4 rfl ?_)
 obtain ⟨KF2,hKF2,o4,hF,hK4⟩:=bindE hF
 refine qcx (fun e w'=>∃ (b1:Bool),KF2 b1=some r∧e=[(2,.pointer (some ⟨bb1,0,none⟩)),(3,.pointer (some ⟨bb2,0,none⟩)),(17,.bool b1)]∧SH w w' [Ch.box bb2 (qaN a_1 p2 p3 p4 k2 k3 k4) 50,Ch.box bb1 [.slice p1 a_0.Ak.length k1] 46]) ?_ ?_
 ·refine X1 2 1 h rfl (zcB h hF (qly (h.old ha1)) rfl fun r5 w17 h hF=>zp2 rfl (qg (t:=13) hF rfl ?_ ?_))<;>intro hF
  ·refine X0 5 rfl ?_
   obtain rfl:=qa hF
   exact rG ⟨_,hK4,rfl,h⟩ rfl
  refine X1 3 0 h rfl (zcB h hF (qje (h.old ha2)) rfl fun r6 w18 h hF=>X0 4 rfl ?_)
  obtain rfl:=qa hF
  exact rG ⟨_,hK4,rfl,h⟩ rfl
 rintro e4 w19 ⟨b1,hF,rfl,h⟩
 subst hKF2
 refine qh rfl hF ?_ ?_<;>intro hF
 ·exact X0 4 rfl (rb h hF rfl)
 refine X1 6 0 h rfl ?_
 obtain ⟨x1,hx1,hF⟩:=qf hF
 obtain ⟨g1,g2,hx1⟩:=qbM hx1
 refine qcT qb Int h rfl rfl rfl rfl rfl rfl rfl rfl rfl g1 g2 hx1 rfl fun w3 S1 p5 h=>X1 10 1 h rfl ?_
 obtain ⟨o1,hF,hK1⟩:=qf hF
 refine ql (rL (fun m e w'=>∃ (x2:(List Int)) (i1:Int),qb7 a_0 a_1 m x2 i1=some o1∧e=[(2,.pointer (some ⟨bb1,0,none⟩)),(3,.pointer (some ⟨bb2,0,none⟩)),(5,.slice p5 x1.length x1.length),(23,.slice p2 a_1.Aa.length k2),(24,.int .i64 (a_1.Aa.length:Int)),(25,.int .i64 i1)]∧SH w w' [Ch.own S1 (x2:List Int) [.slice p5 x1.length x1.length],Ch.box bb2 (qaN a_1 p2 p3 p4 k2 k3 k4) 50,Ch.box bb1 [.slice p1 a_0.Ak.length k1] 46]) n ⟨_,_,hF,rfl,h⟩ rfl ?_)
 rintro m1 e1 w4 ⟨x2,i1,hF,rfl,h⟩
 rcases m1 with _|m1
 ·cases hF
 refine X0 5 rfl (qh rfl hF ?_ ?_)<;>intro hF
 ·refine zKSBSR ?_
  obtain ⟨y1,hy1,hF,he1,b2,_,q1,cs3,hp1,hq1,hr1,hc3⟩:=s2.ix hF
  obtain ⟨p6,k5,rfl,s5⟩:=qM hr1
  refine zxe hp1 hq1 he1 rfl (zc 0 (hc3.below h.below) rfl (qx qb h rfl rfl rfl fun w5 bb3 h=>zs 0 h rfl fun w6 h=>X3 7 2 3 0 h rfl (zcB h hF (qiA (h.old ha2) (h.old ha1) (qeS y1 (h.oldS s5))) rfl fun r1 w7 h hF=>X0 2 rfl (qh rfl hF ?_ ?_))))<;>intro hF
  ·refine X0 4 rfl ?_
   obtain rfl:=qa hF;replace hF:=hK1
   exact rb h hF rfl
  refine X2 9 0 0 h rfl ?_
  obtain ⟨y2,hy2,hF,he2,b3,_,q2,cs4,hp2,hq2,rfl,hc5⟩:=s5.ix hF
  refine zxe hp2 hq2 he2 rfl (zc 0 (hc5.below h.below) rfl ?_)
  obtain ⟨y3,hy3,hF,he3,b4,_,q3,cs5,hp3,hq3,rfl,hc6⟩:=(h.sl 1 rfl).1.ix hF
  refine zx hp3 hq3 ⟨he3.1,qJ he3.2.1 (h.sl 1 rfl).2⟩ rfl (zc 0 hc6 rfl (zp1 rfl ?_))
  obtain ⟨y4,hy4,hF,he4,b5,_,q4,cs6,hp4,hq4,rfl,hc7⟩:=(h.sl 1 rfl).1.ix hF
  refine zx hp4 hq4 ⟨he4.1,qJ he4.2.1 (h.sl 1 rfl).2⟩ rfl (qaS qb 1 0 (W64 (y3+1)) h rfl hy4 hp4 hq4 rfl hc7 rfl rfl rfl rfl rfl rfl rfl fun w8 h=>X0 6 rfl ?_)
  replace h:=h.pick [1,2,3] rfl
  exact rK ⟨_,_,hF,rfl,h⟩ rfl
 refine qr rfl ?_
 obtain rfl:=qa hF;replace hF:=hK1
 refine X1 8 1 h rfl ?_
 obtain ⟨o2,hF,hK2⟩:=qf hF
 refine ql ?_
 replace h:=h.pick [0,1] rfl
 refine rL (fun m e w'=>∃ (x3:(List Int)) (i2:Int),qbz a_1 m x3 i2=some o2∧e=[(3,.pointer (some ⟨bb2,0,none⟩)),(5,.slice p5 x1.length x1.length),(49,.slice p4 a_1.Af.length k4),(50,.int .i64 (a_1.Af.length:Int)),(51,.int .i64 i2)]∧SH w w' [Ch.own S1 (x3:List Int) [.slice p5 x1.length x1.length],Ch.box bb2 (qaN a_1 p2 p3 p4 k2 k3 k4) 50]) n ⟨_,_,hF,rfl,h⟩ rfl ?_
 rintro m2 e2 w9 ⟨x3,i2,hF,rfl,h⟩
 rcases m2 with _|m2
 ·cases hF
 refine X0 5 rfl (qh rfl hF ?_ ?_)<;>intro hF
 ·refine zKSBSR ?_
  obtain ⟨y5,hy5,hF,he5,b6,_,q5,cs7,hp5,hq5,hr6,hc9⟩:=s4.ix hF
  obtain rfl:=qak hr6
  refine zxe hp5 hq5 he5 rfl (zc 0 (hc9.below h.below) rfl (qx qb h rfl rfl rfl fun w10 bb4 h=>zs 0 h rfl fun w11 h=>zNSS ?_))
  obtain ⟨KF1,hKF1,o3,hF,hK3⟩:=bindE hF
  refine qcx (fun e w'=>∃ (b7:Bool),KF1 b7=some o2∧e=[(3,.pointer (some ⟨bb2,0,none⟩)),(5,.slice p5 x1.length x1.length),(9,.pointer (some ⟨bb4,0,none⟩)),(49,.slice p4 a_1.Af.length k4),(50,.int .i64 (a_1.Af.length:Int)),(51,.int .i64 i2),(69,.bool b7)]∧SH w w' [Ch.box bb4 (qmM y5) 294,Ch.own S1 (x3:List Int) [.slice p5 x1.length x1.length],Ch.box bb2 (qaN a_1 p2 p3 p4 k2 k3 k4) 50]) ?_ ?_
  ·refine X1 5 0 h rfl (qg (t:=58) hF rfl ?_ ?_)<;>intro hF
   ·refine X1 8 0 h rfl (qg (t:=63) hF rfl ?_ ?_)<;>intro hF
    ·refine X0 7 rfl ?_
     obtain rfl:=qa hF
     exact rG ⟨_,hK3,rfl,h⟩ rfl
    refine X2 7 2 0 h rfl (zcB h hF (qch (h.old ha2)) rfl fun r2 w13 h hF=>X0 4 rfl ?_)
    obtain rfl:=qa hF
    exact rG ⟨_,hK3,rfl,h⟩ rfl
   refine X2 12 2 0 h rfl (zcB h hF (qch (h.old ha2)) rfl fun r3 w14 h hF=>X0 4 rfl ?_)
   obtain rfl:=qa hF
   exact rG ⟨_,hK3,rfl,h⟩ rfl
  rintro e3 w15 ⟨b7,hF,rfl,h⟩
  subst hKF1
  refine qh rfl hF ?_ ?_<;>intro hF
  ·refine X0 4 rfl ?_
   obtain rfl:=qa hF;replace hF:=hK2
   exact rb h hF rfl
  refine X1 7 0 h rfl (qh rfl hF ?_ ?_)<;>intro hF
  ·refine X1 4 0 h rfl ?_
   obtain ⟨y6,hy6,hF,he6,b8,_,q6,cs8,hp6,hq6,rfl,hc12⟩:=(h.sl 1 rfl).1.ix hF
   refine zx hp6 hq6 ⟨he6.1,qJ he6.2.1 (h.sl 1 rfl).2⟩ rfl (zc 0 hc12 rfl (zp1 rfl ?_))
   obtain ⟨y7,hy7,hF,he7,b9,_,q7,cs9,hp7,hq7,rfl,hc13⟩:=(h.sl 1 rfl).1.ix hF
   refine zx hp7 hq7 ⟨he7.1,qJ he7.2.1 (h.sl 1 rfl).2⟩ rfl (qaS qb 1 0 (W64 (y6+1)) h rfl hy7 hp7 hq7 rfl hc13 rfl rfl rfl rfl rfl rfl rfl fun w12 h=>X0 6 rfl ?_)
   replace h:=h.pick [1,2] rfl
   exact rK ⟨_,_,hF,rfl,h⟩ rfl
  refine X0 6 rfl ?_
  replace h:=h.pick [1,2] rfl
  exact rK ⟨_,_,hF,rfl,h⟩ rfl
 refine qr rfl ?_
 obtain rfl:=qa hF;replace hF:=hK2
 exact X0 3 rfl (zcB h hF (qey (h.own 0 rfl)) rfl fun r4 w16 h hF=>X0 3 rfl (rb h hF rfl))
def qa7 (i1:Int) (y1:qd):Nat→(List Tplace)→Int→Option ((List Tplace) × Int)
 | 0,_,_=>none
 | n+1,x2,i2 =>
  bif decide (i2<(y1.Ah.length:Int)) then
   (idx y1.Ah i2).bind fun y2 =>
   (appS x2 ([(⟨i1,i2,y2,(i2==(W64 ((y1.Ah.length:Int)-1)))⟩:Tplace)]:List Tplace)).bind fun x3 =>
   qa7 i1 y1 n x3 (W64 (i2+1))
  else
   some (x2,i2)
def qa8 (d:qc):Nat→(List Tplace)→Int→Option ((List Tplace) × Int)
 | 0,_,_=>none
 | n+1,x4,i3 =>
  bif decide (i3<(d.Af.length:Int)) then
   (idx d.Af i3).bind fun y3 =>
   (appS x4 ([(⟨(-1),i3,y3.Bp,(y3.Bm==1)⟩:Tplace)]:List Tplace)).bind fun x5 =>
   qa8 d n x5 (W64 (i3+1))
  else
   some (x4,i3)
def qa6 (d:qc):Nat→(List Tplace)→Int→Option ((List Tplace) × Int)
 | 0,_,_=>none
 | n+1,x1,i1 =>
  bif decide (i1<(d.Aa.length:Int)) then
   (idx d.Aa i1).bind fun y1 =>
   (qa7 i1 y1 n x1 0).bind fun o=>match o with
   | (x2,_) =>
    qa6 d n x2 (W64 (i1+1))
  else
   some (x1,i1)
def qbv (n:Nat) (d:qc):Option (List Tplace) :=
 (qa6 d n ([]:List Tplace) 0).bind fun o=>match o with
 | (x1,_) =>
  (qa8 d n x1 0).bind fun o=>match o with
  | (x4,_) =>
   some x4
theorem qdn {d:qc} (ha1:GoT.R w (old w) d cs1) {r:(List Tplace)} (hF:qbv n d=some r):RetV Tryz.prog 162 [GoT.v qc cs1] w r:=by
 obtain ⟨p1,k1,p2,k2,p3,k3,rfl,s1,s2,s3⟩:=qad ha1
 refine zV 61 Tryz.func162 rfl fun h=>zSR (qu h rfl rfl fun w1 bb1 h=>X1 14 0 h rfl ?_)
 replace h:=h.nil (α:=Tplace)
 obtain ⟨o1,hF,hK1⟩:=qf hF
 refine ql (rL (fun m e w'=>∃ (S1:Nat→Prop) (p4:Option Addr) (ln1:Nat) (k4:Nat) (x1:(List Tplace)) (i1:Int),qa6 d m x1 i1=some o1∧e=[(1,.pointer (some ⟨bb1,0,none⟩)),(3,.slice p4 ln1 k4),(11,.slice p1 d.Aa.length k1),(12,.int .i64 (d.Aa.length:Int)),(13,.int .i64 i1)]∧SH w w' [Ch.own S1 (x1:List Tplace) [.slice p4 ln1 k4],Ch.box bb1 (qaN d p1 p2 p3 k1 k2 k3) 50]) n ⟨_,_,_,_,_,_,hF,rfl,h⟩ rfl ?_)
 rintro m1 e1 w2 ⟨S1,p4,ln1,k4,x1,i1,hF,rfl,h⟩
 obtain rfl:=(h.sl 0 rfl).2
 rcases m1 with _|m1
 ·cases hF
 refine X0 5 rfl (qh rfl hF ?_ ?_)<;>intro hF
 ·refine X0 6 rfl ?_
  obtain ⟨y1,hy1,hF,he1,b1,_,q1,cs2,hp1,hq1,hr1,hc2⟩:=s1.ix hF
  obtain ⟨p5,k5,rfl,s4⟩:=qM hr1
  refine zxe hp1 hq1 he1 rfl (zc 0 (hc2.below h.below) rfl (qx qb h rfl rfl rfl fun w3 bb2 h=>zp1 rfl (zs 0 h rfl fun w4 h=>X1 8 0 h rfl ?_)))
  obtain ⟨o2,hF,hK2⟩:=qf hF
  refine ql (rL (fun m e w'=>∃ (S2:Nat→Prop) (p6:Option Addr) (ln2:Nat) (k6:Nat) (x2:(List Tplace)) (i2:Int),qa7 i1 y1 m x2 i2=some o2∧e=[(1,.pointer (some ⟨bb1,0,none⟩)),(3,.slice p6 ln2 k6),(4,.int .i64 i1),(5,.pointer (some ⟨bb2,0,none⟩)),(11,.slice p1 d.Aa.length k1),(12,.int .i64 (d.Aa.length:Int)),(13,.int .i64 i1),(19,.slice p5 y1.Ah.length k5),(20,.int .i64 (y1.Ah.length:Int)),(21,.int .i64 i2)]∧SH w w' [Ch.box bb2 (qhv y1 p5 k5) 174,Ch.own S2 (x2:List Tplace) [.slice p6 ln2 k6],Ch.box bb1 (qaN d p1 p2 p3 k1 k2 k3) 50]) m1 ⟨_,_,_,_,_,_,hF,rfl,h⟩ rfl ?_)
  rintro m2 e2 w5 ⟨S2,p6,ln2,k6,x2,i2,hF,rfl,h⟩
  obtain rfl:=(h.sl 1 rfl).2
  rcases m2 with _|m2
  ·cases hF
  refine X0 5 rfl (qh rfl hF ?_ ?_)<;>intro hF
  ·refine X0 6 rfl ?_
   obtain ⟨y2,hy2,hF,he2,b2,_,q2,cs3,hp2,hq2,rfl,hc4⟩:=s4.ix hF
   refine zxe hp2 hq2 he2 rfl (zc 0 (hc4.below h.below) rfl (X1 14 0 h rfl (r_v (qdO qb [0,1,2,3] [.tmp 27,.tmp 28,.tmp 29,.tmp 35] rfl rfl rfl rfl rfl rfl rfl rfl) rfl (qab qb [.tmp 36] _ ([(⟨i1,i2,y2,(i2==(W64 ((y1.Ah.length:Int)-1)))⟩:Tplace)]:List Tplace) h rfl rfl rfl rfl rfl rfl rfl rfl rfl ⟨(qim (⟨i1,i2,y2,(i2==(W64 ((y1.Ah.length:Int)-1)))⟩:Tplace)),trivial⟩ rfl fun w6 p7 S3 h=>?_))))
   obtain ⟨x3,hx1,hF⟩:=qf hF
   obtain ⟨g1,hx1⟩:=qaY hx1
   refine qd1 qb 2 h rfl (h.sl 0 rfl).1 (h.sl 0 rfl).2 rfl rfl rfl rfl rfl rfl rfl rfl rfl g1 hx1 rfl fun w7 p8 k7 S4 h=>X0 7 rfl ?_
   replace h:=h.pick [1,2,3] rfl
   exact rK ⟨_,_,_,_,_,_,hF,rfl,h⟩ rfl
  refine qr rfl ?_
  obtain rfl:=qa hF;replace hF:=hK2
  refine X0 5 rfl ?_
  replace h:=h.pick [1,2] rfl
  exact rK ⟨_,_,_,_,_,_,hF,rfl,h⟩ rfl
 refine qr rfl ?_
 obtain rfl:=qa hF;replace hF:=hK1
 refine X1 8 1 h rfl ?_
 obtain ⟨o3,hF,hK3⟩:=qf hF
 refine ql ?_
 replace h:=h.pick [0] rfl
 refine rL (fun m e w'=>∃ (S5:Nat→Prop) (p9:Option Addr) (ln3:Nat) (k8:Nat) (x4:(List Tplace)) (i3:Int),qa8 d m x4 i3=some o3∧e=[(3,.slice p9 ln3 k8),(42,.slice p3 d.Af.length k3),(43,.int .i64 (d.Af.length:Int)),(44,.int .i64 i3)]∧SH w w' [Ch.own S5 (x4:List Tplace) [.slice p9 ln3 k8]]) n ⟨_,_,_,_,_,_,hF,rfl,h⟩ rfl ?_
 rintro m3 e3 w8 ⟨S5,p9,ln3,k8,x4,i3,hF,rfl,h⟩
 obtain rfl:=(h.sl 0 rfl).2
 rcases m3 with _|m3
 ·cases hF
 refine X0 5 rfl (qh rfl hF ?_ ?_)<;>intro hF
 ·refine X0 6 rfl ?_
  obtain ⟨y3,hy3,hF,he3,b3,_,q3,cs4,hp3,hq3,hr3,hc6⟩:=s3.ix hF
  obtain rfl:=qak hr3
  refine zxe hp3 hq3 he3 rfl (zc 0 (hc6.below h.below) rfl (qx qb h rfl rfl rfl fun w9 bb3 h=>zp1 rfl (zs 0 h rfl fun w10 h=>X2 9 0 0 h rfl (r_v (qdO qb [0,1,2,3] [.const (.int .i64 (-1)),.tmp 50,.tmp 52,.tmp 55] rfl rfl rfl rfl rfl rfl rfl rfl) rfl (qab qb [.tmp 56] _ ([(⟨(-1),i3,y3.Bp,(y3.Bm==1)⟩:Tplace)]:List Tplace) h rfl rfl rfl rfl rfl rfl rfl rfl rfl ⟨(qim (⟨(-1),i3,y3.Bp,(y3.Bm==1)⟩:Tplace)),trivial⟩ rfl fun w11 p10 S6 h=>?_)))))
  obtain ⟨x5,hx2,hF⟩:=qf hF
  obtain ⟨g2,hx2⟩:=qaY hx2
  refine qd1 qb 2 h rfl (h.sl 0 rfl).1 (h.sl 0 rfl).2 rfl rfl rfl rfl rfl rfl rfl rfl rfl g2 hx2 rfl fun w12 p11 k9 S7 h=>X0 7 rfl ?_
  replace h:=h.pick [2] rfl
  exact rK ⟨_,_,_,_,_,_,hF,rfl,h⟩ rfl
 refine qr rfl ?_
 obtain rfl:=qa hF;replace hF:=hK3
 refine X0 5 rfl ?_
 obtain rfl:=qa hF
 exact rO 0 h rfl ⟨rfl,trivial⟩
def qaI (a_w:qw):Nat→Int→Option (Flow Bool Int)
 | 0,_=>none
 | n+1,i1 =>
  bif decide (i1<(a_w.Ai.length:Int)) then
   (idx a_w.Ai i1).bind fun y1 =>
   bif (i1==0) then
    bif (y1 != (-1)) then some (.ret false) else
    (idx a_w.Bn 0).bind fun y2 =>
    bif (y2 != 0) then some (.ret false) else
    bif decide (i1 > 0) then
     (qam n y1 0 (W64 (i1-1))).bind fun r1 =>
     bif (!r1) then some (.ret false) else
     qaI a_w n (W64 (i1+1))
    else
     qaI a_w n (W64 (i1+1))
   else
    bif decide (i1 > 0) then
     (qam n y1 0 (W64 (i1-1))).bind fun r2 =>
     bif (!r2) then some (.ret false) else
     qaI a_w n (W64 (i1+1))
    else
     qaI a_w n (W64 (i1+1))
  else
   some (.nxt i1)
def qfl (n:Nat) (a_w:qw):Option Bool :=
 (qaI a_w n 0).bind fun o=>match o with
 | .ret r=>some r
 | .nxt _ =>
  some true
theorem qkG {a_w:qw} (ha1:GoT.R w (old w) a_w cs1) {r:Bool} (hF:qfl n a_w=some r):RetV Tryz.prog 232 [GoT.v qw cs1] w r:=by
 obtain ⟨p1,k1,p2,k2,p3,k3,p4,k4,rfl,s1,s2,s3,s4⟩:=qa0 ha1
 refine zV 38 Tryz.func232 rfl fun h=>zSR (qu h rfl rfl fun w1 bb1 h=>X1 10 0 h rfl ?_)
 obtain ⟨o1,hF,hK1⟩:=qf hF
 refine ql (rL (fun m e w'=>∃ (i1:Int),qaI a_w m i1=some o1∧e=[(1,.pointer (some ⟨bb1,0,none⟩)),(6,.slice p1 a_w.Ai.length k1),(7,.int .i64 (a_w.Ai.length:Int)),(8,.int .i64 i1)]∧SH w w' [Ch.box bb1 (qgE a_w p1 p2 p3 p4 k1 k2 k3 k4) 210]) n ⟨_,hF,rfl,h⟩ rfl ?_)
 rintro m1 e1 w2 ⟨i1,hF,rfl,h⟩
 rcases m1 with _|m1
 ·cases hF
 refine X0 5 rfl (qh rfl hF ?_ ?_)<;>intro hF
 ·refine X0 6 rfl ?_
  obtain ⟨y1,hy1,hF,he1,b1,_,q1,cs2,hp1,hq1,rfl,hc2⟩:=s1.ix hF
  refine zxe hp1 hq1 he1 rfl (zc 0 (hc2.below h.below) rfl (X0 8 rfl (qg (t:=15) hF rfl ?_ ?_)))<;>intro hF
  ·refine X0 6 rfl (qg (t:=18) hF rfl ?_ ?_)<;>intro hF
   ·refine X0 20 rfl (qb2 rfl rfl (X0 4 rfl ?_))
    obtain rfl:=qa hF;replace hF:=hK1
    exact rb h hF rfl
   refine X1 5 0 h rfl ?_
   obtain ⟨y2,hy2,hF,he2,b2,_,q2,cs3,hp2,hq2,rfl,hc3⟩:=s2.ix hF
   refine zxe hp2 hq2 he2 rfl (X0 1 rfl (zc 0 (hc3.below h.below) rfl (X0 6 rfl (qg (t:=26) hF rfl ?_ ?_))))<;>intro hF
   ·refine X0 11 rfl (qb2 rfl rfl (X0 4 rfl ?_))
    obtain rfl:=qa hF;replace hF:=hK1
    exact rb h hF rfl
   refine X0 6 rfl (qg (t:=29) hF rfl ?_ ?_)<;>intro hF
   ·refine X0 7 rfl (zcB h hF qac rfl fun r1 w3 h hF=>X0 6 rfl (qh rfl hF ?_ ?_))<;>intro hF
    ·refine X0 4 rfl ?_
     obtain rfl:=qa hF;replace hF:=hK1
     exact rb h hF rfl
    exact X0 6 rfl (rK ⟨_,hF,rfl,h⟩ rfl)
   exact X0 9 rfl (qcO rfl rfl (X0 6 rfl (rK ⟨_,hF,rfl,h⟩ rfl)))
  refine X0 17 rfl (qg (t:=29) hF rfl ?_ ?_)<;>intro hF
  ·refine X0 7 rfl (zcB h hF qac rfl fun r2 w4 h hF=>X0 6 rfl (qh rfl hF ?_ ?_))<;>intro hF
   ·refine X0 4 rfl ?_
    obtain rfl:=qa hF;replace hF:=hK1
    exact rb h hF rfl
   exact X0 6 rfl (rK ⟨_,hF,rfl,h⟩ rfl)
  exact X0 9 rfl (qcO rfl rfl (X0 6 rfl (rK ⟨_,hF,rfl,h⟩ rfl)))
 refine qr rfl ?_
 obtain rfl:=qa hF;replace hF:=hK1
 exact X0 4 rfl (rb h hF rfl)
def qiP (n:Nat) (a_w:qw) (sinks:Int):Option Bool :=
 (qaR n a_w.Ai).bind fun r1 =>
 (qam n r1 1 8).bind fun r2 =>
 bif r2 then
  (qaR n a_w.Bn).bind fun r3 =>
  bif (r3==r1) then
   (qaR n a_w.Bk).bind fun r4 =>
   bif (r4==r1) then
    (qfl n a_w).bind fun r5 =>
    bif r5 then
     (qbO n a_w.Bn 0 1000).bind fun r6 =>
     bif r6 then
      (qbO n a_w.Bk 0 500).bind fun r7 =>
      bif r7 then
       (qaR n a_w.Bg).bind fun r8 =>
       bif (r8==sinks) then
        (qbO n a_w.Bg 0 (W64 (r1-1))).bind fun r9 =>
        some r9
       else
        some false
      else
       some false
     else
      some false
    else
     some false
   else
    some false
  else
   some false
 else
  some false
theorem qnk {a_w:qw} {sinks:Int} (ha1:GoT.R w (old w) a_w cs1) {r:Bool} (hF:qiP n a_w sinks=some r):RetV Tryz.prog 163 [GoT.v qw cs1,.int .i64 sinks] w r:=by
 obtain ⟨p1,k1,p2,k2,p3,k3,p4,k4,rfl,s1,s2,s3,s4⟩:=qa0 ha1
 refine zV 53 Tryz.func163 rfl fun h=>zSR (qu h rfl rfl fun w1 bb1 h=>X1 6 0 h rfl (zcI h hF (qby ⟨_,_,rfl,(h.oldS s1)⟩) rfl fun r1 w2 h hF=>X0 5 rfl (zcB h hF qac rfl fun r2 w3 h hF=>zp1 rfl (qg (t:=11) hF rfl ?_ ?_))))<;>intro hF
 ·refine X1 5 0 h rfl (zcI h hF (qby ⟨_,_,rfl,(h.oldS s2)⟩) rfl fun r3 w4 h hF=>X0 6 rfl (qg (t:=18) hF rfl ?_ ?_))<;>intro hF
  ·refine X1 5 0 h rfl (zcI h hF (qby ⟨_,_,rfl,(h.oldS s3)⟩) rfl fun r4 w5 h hF=>X0 6 rfl (qg (t:=25) hF rfl ?_ ?_))<;>intro hF
   ·refine X1 3 0 h rfl (zcB h hF (qkG (h.old ha1)) rfl fun r5 w6 h hF=>zp2 rfl (qg (t:=29) hF rfl ?_ ?_))<;>intro hF
    ·refine X1 5 0 h rfl (zcB h hF (qcs ⟨_,_,rfl,(h.oldS s2)⟩) rfl fun r6 w7 h hF=>zp2 rfl (qg (t:=34) hF rfl ?_ ?_))<;>intro hF
     ·refine X1 5 0 h rfl (zcB h hF (qcs ⟨_,_,rfl,(h.oldS s3)⟩) rfl fun r7 w8 h hF=>zp2 rfl (qg (t:=39) hF rfl ?_ ?_))<;>intro hF
      ·refine X1 5 0 h rfl (zcI h hF (qby ⟨_,_,rfl,(h.oldS s4)⟩) rfl fun r8 w9 h hF=>X0 6 rfl (qg (t:=46) hF rfl ?_ ?_))<;>intro hF
       ·exact X1 9 0 h rfl (zcB h hF (qcs ⟨_,_,rfl,(h.oldS s4)⟩) rfl fun r9 w10 h hF=>X0 3 rfl (rb h hF rfl))
       exact X0 8 rfl (rb h hF rfl)
      exact X0 15 rfl (rb h hF rfl)
     exact X0 20 rfl (rb h hF rfl)
    exact X0 25 rfl (rb h hF rfl)
   exact X0 29 rfl (rb h hF rfl)
  exact X0 36 rfl (rb h hF rfl)
 exact X0 43 rfl (rb h hF rfl)
def qdx (b:qk) (x2:(List Int)):Nat→Int→Option (Flow Bool Int)
 | 0,_=>none
 | n+1,i2 =>
  bif decide (i2<(b.Ac.length:Int)) then
   (idx b.Ac i2).bind fun y4 =>
   (idx x2 i2).bind fun y5 =>
   (qiP n y4 y5).bind fun r2 =>
   bif (!r2) then some (.ret false) else
   qdx b x2 n (W64 (i2+1))
  else
   some (.nxt i2)
def qbZ (r1:(List Tplace)):Nat→(List Int)→Int→Option ((List Int) × Int)
 | 0,_,_=>none
 | n+1,x2,i1 =>
  bif decide (i1<(r1.length:Int)) then
   (idx r1 i1).bind fun y1 =>
   bif (!y1.drives) then
    (idx x2 y1.net).bind fun y2 =>
    (idx x2 y1.net).bind fun _ =>
    qbZ r1 n (setS x2 y1.net (W64 (y2+1))) (W64 (i1+1))
   else
    qbZ r1 n x2 (W64 (i1+1))
  else
   some (x2,i1)
def qhC (n:Nat) (b:qk):Option Bool :=
 (
  (qg0 n (⟨b.Au.Ak⟩:qn) (⟨b.Ab.Aa,b.Ab.Ah,b.Ab.Af⟩:qc)).bind fun r3 =>
  bif (!r3) then some true else
  some ((b.Ac.length:Int) != (b.Ab.Ah.length:Int))).bind fun b1 =>
 bif b1 then some false else
 (mkS (b.Ac.length:Int) (0:Int)).bind fun x1 =>
 (qbv n (⟨b.Ab.Aa,b.Ab.Ah,b.Ab.Af⟩:qc)).bind fun r1 =>
 (qbZ r1 n x1 0).bind fun o=>match o with
 | (x2,_) =>
  (qdx b x2 n 0).bind fun o=>match o with
  | .ret r=>some r
  | .nxt _ =>
   some true
theorem qmK {b:qk} (ha1:GoT.R w (old w) b cs1) {r:Bool} (hF:qhC n b=some r):RetV Tryz.prog 85 [GoT.v qk cs1] w r:=by
 obtain ⟨p1,k1,p2,k2,p3,k3,p4,k4,p5,k5,rfl,s1,s2,s3,s4,s5⟩:=qV ha1
 refine zV 63 Tryz.func85 rfl fun h=>zSR (qu h rfl rfl fun w1 bb1 h=>X0 4 rfl ?_)
 obtain ⟨KF1,hKF1,o3,hF,hK3⟩:=bindE hF
 refine qcx (fun e w'=>∃ (b1:Bool),KF1 b1=some r∧e=[(1,.pointer (some ⟨bb1,0,none⟩)),(23,.bool b1)]∧SH w w' [Ch.box bb1 (qaC b p1 p2 p3 p4 p5 k1 k2 k3 k4 k5) 53]) ?_ ?_
 ·refine X2 5 0 0 h rfl (zcB h hF (qlZ (qdD _ (h.oldS s1)) (qaG _ (h.oldS s2) (h.oldS s3) (h.oldS s4))) rfl fun r3 w12 h hF=>zp2 rfl (qg (t:=14) hF rfl ?_ ?_))<;>intro hF
  ·refine X0 10 rfl ?_
   obtain rfl:=qa hF
   exact rG ⟨_,hK3,rfl,h⟩ rfl
  refine X2 18 0 0 h rfl ?_
  obtain rfl:=qa hF
  exact rG ⟨_,hK3,rfl,h⟩ rfl
 rintro e3 w13 ⟨b1,hF,rfl,h⟩
 subst hKF1
 refine qh rfl hF ?_ ?_<;>intro hF
 ·exact X0 4 rfl (rb h hF rfl)
 refine X1 6 0 h rfl ?_
 obtain ⟨x1,hx1,hF⟩:=qf hF
 obtain ⟨g1,g2,hx1⟩:=qbM hx1
 refine qcT qb Int h rfl rfl rfl rfl rfl rfl rfl rfl rfl g1 g2 hx1 rfl fun w2 S1 p6 h=>X1 7 1 h rfl (zcL h hF (qdn (qaG _ (h.oldS s2) (h.oldS s3) (h.oldS s4))) rfl fun r1 w3 S2 p7 k6 h hF=>X0 3 rfl ?_)
 obtain ⟨o1,hF,hK1⟩:=qf hF
 refine ql (rL (fun m e w'=>∃ (x2:(List Int)) (i1:Int),qbZ r1 m x2 i1=some o1∧e=[(1,.pointer (some ⟨bb1,0,none⟩)),(3,.slice p6 x1.length x1.length),(30,.slice p7 r1.length k6),(31,.int .i64 (r1.length:Int)),(32,.int .i64 i1)]∧SH w w' [Ch.own S2 (r1:List Tplace) [.slice p7 r1.length k6],Ch.own S1 (x2:List Int) [.slice p6 x1.length x1.length],Ch.box bb1 (qaC b p1 p2 p3 p4 p5 k1 k2 k3 k4 k5) 53]) n ⟨_,_,hF,rfl,h⟩ rfl ?_)
 rintro m1 e1 w4 ⟨x2,i1,hF,rfl,h⟩
 rcases m1 with _|m1
 ·cases hF
 refine X0 5 rfl (qh rfl hF ?_ ?_)<;>intro hF
 ·refine zKSBSR ?_
  obtain ⟨y1,hy1,hF,he1,b2,_,q1,cs2,hp1,hq1,hr2,hc3⟩:=(h.sl 0 rfl).1.ix hF
  obtain rfl:=qe9 hr2
  refine zx hp1 hq1 ⟨he1.1,qJ he1.2.1 (h.sl 0 rfl).2⟩ rfl (zc 0 hc3 rfl (qx qb h rfl rfl rfl fun w5 bb2 h=>zs 0 h rfl fun w6 h=>X1 7 0 h rfl (qh rfl hF ?_ ?_)))<;>intro hF
  ·refine X1 4 0 h rfl ?_
   obtain ⟨y2,hy2,hF,he2,b3,_,q2,cs3,hp2,hq2,rfl,hc5⟩:=(h.sl 2 rfl).1.ix hF
   refine zx hp2 hq2 ⟨he2.1,qJ he2.2.1 (h.sl 2 rfl).2⟩ rfl (zc 0 hc5 rfl (zp1 rfl ?_))
   obtain ⟨y3,hy3,hF,he3,b4,_,q3,cs4,hp3,hq3,rfl,hc6⟩:=(h.sl 2 rfl).1.ix hF
   refine zx hp3 hq3 ⟨he3.1,qJ he3.2.1 (h.sl 2 rfl).2⟩ rfl (qaS qb 2 0 (W64 (y2+1)) h rfl hy3 hp3 hq3 rfl hc6 rfl rfl rfl rfl rfl rfl rfl fun w7 h=>X0 6 rfl ?_)
   replace h:=h.pick [1,2,3] rfl
   exact rK ⟨_,_,hF,rfl,h⟩ rfl
  refine X0 6 rfl ?_
  replace h:=h.pick [1,2,3] rfl
  exact rK ⟨_,_,hF,rfl,h⟩ rfl
 refine qr rfl ?_
 obtain rfl:=qa hF;replace hF:=hK1
 refine X1 8 2 h rfl ?_
 obtain ⟨o2,hF,hK2⟩:=qf hF
 refine ql ?_
 replace h:=h.pick [1] rfl
 refine rL (fun m e w'=>∃ (i2:Int),qdx b x2 m i2=some o2∧e=[(3,.slice p6 x1.length x1.length),(48,.slice p5 b.Ac.length k5),(49,.int .i64 (b.Ac.length:Int)),(50,.int .i64 i2)]∧SH w w' [Ch.own S1 (x2:List Int) [.slice p6 x1.length x1.length]]) n ⟨_,hF,rfl,h⟩ rfl ?_
 rintro m2 e2 w8 ⟨i2,hF,rfl,h⟩
 rcases m2 with _|m2
 ·cases hF
 refine X0 5 rfl (qh rfl hF ?_ ?_)<;>intro hF
 ·refine X0 6 rfl ?_
  obtain ⟨y4,hy4,hF,he4,b5,_,q4,cs5,hp4,hq4,hr5,hc8⟩:=s5.ix hF
  obtain ⟨p8,k7,p9,k8,p10,k9,p11,k10,rfl,s6,s7,s8,s9⟩:=qa0 hr5
  refine zxe hp4 hq4 he4 rfl (zc 0 (hc8.below h.below) rfl (qx qb h rfl rfl rfl fun w9 bb3 h=>zp1 rfl (zs 0 h rfl fun w10 h=>zNS (rD (Y1 1 0 h rfl ?_)))))
  refine zd2 rfl ?_
  obtain ⟨y5,hy5,hF,he5,b6,_,q5,cs6,hp5,hq5,rfl,hc9⟩:=(h.sl 1 rfl).1.ix hF
  refine zdx hp5 hq5 ⟨he5.1,qJ he5.2.1 (h.sl 1 rfl).2⟩ rfl (zdc 0 hc9 rfl ?_)
  obtain ⟨r2,hr7,hF⟩:=qf hF
  refine qbF r2 (vsB _) (cB 163 rfl) (fun _ hb=>qnk (qh2 y4 ((h.ext hb).oldS s6) ((h.ext hb).oldS s7) ((h.ext hb).oldS s8) ((h.ext hb).oldS s9)) hr7) rfl rfl rfl rfl (zd1 rfl (dN h fun w11 h=>qh rfl hF ?_ ?_))<;>intro hF
  ·refine X0 4 rfl ?_
   obtain rfl:=qa hF;replace hF:=hK2
   exact rb h hF rfl
  refine X0 6 rfl ?_
  replace h:=h.pick [1] rfl
  exact rK ⟨_,hF,rfl,h⟩ rfl
 refine qr rfl ?_
 obtain rfl:=qa hF;replace hF:=hK2
 exact X0 4 rfl (rb h hF rfl)
end Go.Fw


namespace Go.Fw
open Go
def qaw (a:(List Int)):Nat:=a.length
theorem qdA {a:(List Int)} (h:(rngL rngI) a) (w:qaw a≤1048576):(okL okI) a :=
 ⟨by simp only [qaw] at w;omega,fun x hx=>h.2 x hx⟩
def qgb (x:qq):Prop:=(rngL rngI) x.Bf∧(rngL rngI) x.Be∧(rngL rngI) x.Av
def qcM (x:qq):Nat:=qaw x.Bf+qaw x.Be+qaw x.Av
structure qgr (x:qq):Prop where
 Bf:(okL okI) x.Bf
 Be:(okL okI) x.Be
 Av:(okL okI) x.Av
theorem qqE {x:qq} (h:qgb x) (w:qcM x≤1048576):qgr x:=⟨qdA (h.1) (by simp only [qcM] at w;omega),qdA (h.2.1) (by simp only [qcM] at w;omega),qdA (h.2.2) (by simp only [qcM] at w;omega)⟩
def qb3 (a:(List qq)):Nat:=a.length+(a.map fun x=>qcM x).sum
theorem qmg {a:(List qq)} (h:(rngL qgb) a) (w:qb3 a≤1048576):(okL qgr) a :=
 ⟨by simp only [qb3] at w;omega,fun x hx=>qqE (h.2 x hx) (by have:=qbw (wt:=fun x:qq=>qcM x) hx;simp only [qb3] at w;omega)⟩
def qjw (x:qF):Prop:=rngI x.Ay∧rngI x.Bd∧rngI x.To∧rngI x.Bi∧(rngL qgb) x.Bb∧(rngL qgb) x.Az
def qgH (x:qF):Nat:=qb3 x.Bb+qb3 x.Az
structure qk0 (x:qF):Prop where
 Ay:okI x.Ay
 Bd:okI x.Bd
 To:okI x.To
 Bi:okI x.Bi
 Bb:(okL qgr) x.Bb
 Az:(okL qgr) x.Az
theorem qsN {x:qF} (h:qjw x) (w:qgH x≤1048576):qk0 x:=⟨h.1,h.2.1,h.2.2.1,h.2.2.2.1,qmg (h.2.2.2.2.1) (by simp only [qgH] at w;omega),qmg (h.2.2.2.2.2) (by simp only [qgH] at w;omega)⟩
theorem qdr {a:(List Int)} (h:qaw a≤1048576):Ev (fun n=>qaA n a a) true:=by
 have hl:a.length≤1048576:=by simp only [qaw] at h;omega
 unfold qaA
 exact Ev.ff (by simp) (Ev.bind (b:=.nxt (a.length:Int)) (qfS (eqf:=fun _ x y=>some (!(x != y))) (fun x _=>Ev.now (by simp))
  (fun n=>by simp only [qd6,qj (je _),cond_false])
  (fun n j x hx=>by
   have hj:=(List.getElem?_eq_some_iff.1 hx).1
   simp only [qd6,qi hj,cond_true,qz hx,jd,Bool.not_not,wS j])) .done)
theorem qr1 {a:qq} (h:qcM a≤1048576):Ev (fun n=>qgq n a a) true:=by
 unfold qgq
 simp only [qcM] at h
 exact Ev.bind (qdr (a:=a.Bf) (by omega)) (Ev.ff rfl (Ev.bind (qdr (a:=a.Be) (by omega)) (Ev.ff rfl (Ev.bind (qdr (a:=a.Av) (by omega)) (Ev.ff rfl (.done))))))
theorem qoh {a:(List qq)} (h:qb3 a≤1048576):Ev (fun n=>qfL n a a) true:=by
 have hl:a.length≤1048576:=by simp only [qb3] at h;omega
 unfold qfL
 exact Ev.ff (by simp) (Ev.bind (b:=.nxt (a.length:Int)) (qfS (eqf:=qgq) (fun x hx=>qr1 (by have:=qbw (wt:=fun x:qq=>qcM x) hx;simp only [qb3] at h;omega))
  (fun n=>by simp only [qeb,qj (je _),cond_false])
  (fun n j x hx=>by
   have hj:=(List.getElem?_eq_some_iff.1 hx).1
   simp only [qeb,qi hj,cond_true,qz hx,jd,wS j])) .done)
theorem qub {a:qF} (h:qgH a≤1048576):Ev (fun n=>qh6 n a a) true:=by
 unfold qh6
 simp only [qgH] at h
 exact Ev.ff qax (Ev.ff qax (Ev.ff qax (Ev.ff qax (Ev.bind (qoh (a:=a.Bb) (by omega)) (Ev.ff rfl (Ev.bind (qoh (a:=a.Az) (by omega)) (Ev.ff rfl (.done))))))))
def qfD (a:(List qF)):Nat:=a.length+(a.map fun x=>qgH x).sum
theorem qrk {a:(List qF)} (h:(rngL qjw) a) (w:qfD a≤1048576):(okL qk0) a :=
 ⟨by simp only [qfD] at w;omega,fun x hx=>qsN (h.2 x hx) (by have:=qbw (wt:=fun x:qF=>qgH x) hx;simp only [qfD] at w;omega)⟩
theorem qts {a:(List qF)} (h:qfD a≤1048576):Ev (fun n=>qiH n a a) true:=by
 have hl:a.length≤1048576:=by simp only [qfD] at h;omega
 unfold qiH
 exact Ev.ff (by simp) (Ev.bind (b:=.nxt (a.length:Int)) (qfS (eqf:=qh6) (fun x hx=>qub (by have:=qbw (wt:=fun x:qF=>qgH x) hx;simp only [qfD] at h;omega))
  (fun n=>by simp only [qff,qj (je _),cond_false])
  (fun n j x hx=>by
   have hj:=(List.getElem?_eq_some_iff.1 hx).1
   simp only [qff,qi hj,cond_true,qz hx,jd,wS j])) .done)
def qjm (x:qO):Prop:=rngS x.Ar∧rngI x.Bm∧rngI x.Bk∧rngB x.Bh
def qiu (x:qO):Nat:=x.Ar.size
structure qj9 (x:qO):Prop where
 Ar:okS x.Ar
 Bm:okI x.Bm
 Bk:okI x.Bk
 Bh:okT x.Bh
theorem qsW {x:qO} (h:qjm x) (w:qiu x≤1048576):qj9 x:=⟨(by unfold okS;simp only [qiu] at w;omega),h.2.1,h.2.2.1,trivial⟩
def qfE (a:(List qO)):Nat:=a.length+(a.map fun x=>qiu x).sum
theorem qrg {a:(List qO)} (h:(rngL qjm) a) (w:qfE a≤1048576):(okL qj9) a :=
 ⟨by simp only [qfE] at w;omega,fun x hx=>qsW (h.2 x hx) (by have:=qbw (wt:=fun x:qO=>qiu x) hx;simp only [qfE] at w;omega)⟩
def qiv (x:qp):Prop:=rngS x.Ar∧rngI x.Ay∧(rngL qjm) x.Am∧(rngL qjw) x.Aj∧(rngL rngI) x.Bc∧rngI x.Bq∧rngI x.Bj
def qeh (x:qp):Nat:=x.Ar.size+qfE x.Am+qfD x.Aj+qaw x.Bc
structure qkl (x:qp):Prop where
 Ar:okS x.Ar
 Ay:okI x.Ay
 Am:(okL qj9) x.Am
 Aj:(okL qk0) x.Aj
 Bc:(okL okI) x.Bc
 Bq:okI x.Bq
 Bj:okI x.Bj
theorem qrS {x:qp} (h:qiv x) (w:qeh x≤1048576):qkl x:=⟨(by unfold okS;simp only [qeh] at w;omega),h.2.1,qrg (h.2.2.1) (by simp only [qeh] at w;omega),qrk (h.2.2.2.1) (by simp only [qeh] at w;omega),qdA (h.2.2.2.2.1) (by simp only [qeh] at w;omega),h.2.2.2.2.2.1,h.2.2.2.2.2.2⟩
def qen (a:(List qp)):Nat:=a.length+(a.map fun x=>qeh x).sum
theorem qqG {a:(List qp)} (h:(rngL qiv) a) (w:qen a≤1048576):(okL qkl) a :=
 ⟨by simp only [qen] at w;omega,fun x hx=>qrS (h.2 x hx) (by have:=qbw (wt:=fun x:qp=>qeh x) hx;simp only [qen] at w;omega)⟩
def qiQ (x:qn):Prop:=(rngL qiv) x.Ak
def qc9 (x:qn):Nat:=qen x.Ak
structure qfZ (x:qn):Prop where
 Ak:(okL qkl) x.Ak
theorem qo7 {x:qn} (h:qiQ x) (w:qc9 x≤1048576):qfZ x:=⟨qqG (h) (by simp only [qc9] at w;omega)⟩
def qet (x:qd):Prop:=rngS x.Ar∧rngI x.Bl∧(rngL rngI) x.Ah
def qa5 (x:qd):Nat:=x.Ar.size+qaw x.Ah
structure qjQ (x:qd):Prop where
 Ar:okS x.Ar
 Bl:okI x.Bl
 Ah:(okL okI) x.Ah
theorem qnY {x:qd} (h:qet x) (w:qa5 x≤1048576):qjQ x:=⟨(by unfold okS;simp only [qa5] at w;omega),h.2.1,qdA (h.2.2) (by simp only [qa5] at w;omega)⟩
def qbc (a:(List qd)):Nat:=a.length+(a.map fun x=>qa5 x).sum
theorem qny {a:(List qd)} (h:(rngL qet) a) (w:qbc a≤1048576):(okL qjQ) a :=
 ⟨by simp only [qbc] at w;omega,fun x hx=>qnY (h.2 x hx) (by have:=qbw (wt:=fun x:qd=>qa5 x) hx;simp only [qbc] at w;omega)⟩
def qc0 (a:(List ByteArray)):Nat:=a.length+(a.map fun x=>x.size).sum
theorem qoJ {a:(List ByteArray)} (_:(rngL rngS) a) (w:qc0 a≤1048576):(okL okS) a :=
 ⟨by simp only [qc0] at w;omega,fun x hx=>(by unfold okS;have:=qbw (wt:=fun x:ByteArray=>x.size) hx;simp only [qc0] at w;omega)⟩
def qis (x:qB):Prop:=rngS x.Ar∧rngI x.Bm∧rngI x.Bp
def qf1 (x:qB):Nat:=x.Ar.size
structure qoO (x:qB):Prop where
 Ar:okS x.Ar
 Bm:okI x.Bm
 Bp:okI x.Bp
theorem qrH {x:qB} (h:qis x) (w:qf1 x≤1048576):qoO x:=⟨(by unfold okS;simp only [qf1] at w;omega),h.2.1,h.2.2⟩
def qep (a:(List qB)):Nat:=a.length+(a.map fun x=>qf1 x).sum
theorem qqB {a:(List qB)} (h:(rngL qis) a) (w:qep a≤1048576):(okL qoO) a :=
 ⟨by simp only [qep] at w;omega,fun x hx=>qrH (h.2 x hx) (by have:=qbw (wt:=fun x:qB=>qf1 x) hx;simp only [qep] at w;omega)⟩
def qjt (x:qc):Prop:=(rngL qet) x.Aa∧(rngL rngS) x.Ah∧(rngL qis) x.Af
def qdi (x:qc):Nat:=qbc x.Aa+qc0 x.Ah+qep x.Af
structure qh1 (x:qc):Prop where
 Aa:(okL qjQ) x.Aa
 Ah:(okL okS) x.Ah
 Af:(okL qoO) x.Af
theorem qpn {x:qc} (h:qjt x) (w:qdi x≤1048576):qh1 x:=⟨qny (h.1) (by simp only [qdi] at w;omega),qoJ (h.2.1) (by simp only [qdi] at w;omega),qqB (h.2.2) (by simp only [qdi] at w;omega)⟩
def qit (x:qw):Prop:=(rngL rngI) x.Ai∧(rngL rngI) x.Bn∧(rngL rngI) x.Bk∧(rngL rngI) x.Bg
def qd9 (x:qw):Nat:=qaw x.Ai+qaw x.Bn+qaw x.Bk+qaw x.Bg
structure qln (x:qw):Prop where
 Ai:(okL okI) x.Ai
 Bn:(okL okI) x.Bn
 Bk:(okL okI) x.Bk
 Bg:(okL okI) x.Bg
theorem qrD {x:qw} (h:qit x) (w:qd9 x≤1048576):qln x:=⟨qdA (h.1) (by simp only [qd9] at w;omega),qdA (h.2.1) (by simp only [qd9] at w;omega),qdA (h.2.2.1) (by simp only [qd9] at w;omega),qdA (h.2.2.2) (by simp only [qd9] at w;omega)⟩
def qeq (a:(List qw)):Nat:=a.length+(a.map fun x=>qd9 x).sum
theorem qqS {a:(List qw)} (h:(rngL qit) a) (w:qeq a≤1048576):(okL qln) a :=
 ⟨by simp only [qeq] at w;omega,fun x hx=>qrD (h.2 x hx) (by have:=qbw (wt:=fun x:qw=>qd9 x) hx;simp only [qeq] at w;omega)⟩
def qkq (x:qk):Prop:=qiQ x.Au∧qjt x.Ab∧(rngL qit) x.Ac
def qew (x:qk):Nat:=qc9 x.Au+qdi x.Ab+qeq x.Ac
structure qjN (x:qk):Prop where
 Au:qfZ x.Au
 Ab:qh1 x.Ab
 Ac:(okL qln) x.Ac
theorem qqX {x:qk} (h:qkq x) (w:qew x≤1048576):qjN x:=⟨qo7 (h.1) (by simp only [qew] at w;omega),qpn (h.2.1) (by simp only [qew] at w;omega),qqS (h.2.2) (by simp only [qew] at w;omega)⟩
theorem qup {a:qO} (_:qiu a≤1048576):Ev (fun n=>qii n a a) true:=by
 unfold qii
 exact Ev.ff qhR (Ev.ff qax (Ev.ff qax (Ev.ff qoM (.done))))
theorem qtq {a:(List qO)} (h:qfE a≤1048576):Ev (fun n=>qiI n a a) true:=by
 have hl:a.length≤1048576:=by simp only [qfE] at h;omega
 unfold qiI
 exact Ev.ff (by simp) (Ev.bind (b:=.nxt (a.length:Int)) (qfS (eqf:=qii) (fun x hx=>qup (by have:=qbw (wt:=fun x:qO=>qiu x) hx;simp only [qfE] at h;omega))
  (fun n=>by simp only [qfa,qj (je _),cond_false])
  (fun n j x hx=>by
   have hj:=(List.getElem?_eq_some_iff.1 hx).1
   simp only [qfa,qi hj,cond_true,qz hx,jd,wS j])) .done)
theorem qtg {a:qp} (h:qeh a≤1048576):Ev (fun n=>qhp n a a) true:=by
 unfold qhp
 simp only [qeh] at h
 exact Ev.ff qhR (Ev.ff qax (Ev.bind (qtq (a:=a.Am) (by omega)) (Ev.ff rfl (Ev.bind (qts (a:=a.Aj) (by omega)) (Ev.ff rfl (Ev.bind (qdr (a:=a.Bc) (by omega)) (Ev.ff rfl (Ev.ff qax (Ev.ff qax (.done))))))))))
theorem qsJ {a:(List qp)} (h:qen a≤1048576):Ev (fun n=>qhT n a a) true:=by
 have hl:a.length≤1048576:=by simp only [qen] at h;omega
 unfold qhT
 exact Ev.ff (by simp) (Ev.bind (b:=.nxt (a.length:Int)) (qfS (eqf:=qhp) (fun x hx=>qtg (by have:=qbw (wt:=fun x:qp=>qeh x) hx;simp only [qen] at h;omega))
  (fun n=>by simp only [qeG,qj (je _),cond_false])
  (fun n j x hx=>by
   have hj:=(List.getElem?_eq_some_iff.1 hx).1
   simp only [qeG,qi hj,cond_true,qz hx,jd,wS j])) .done)
theorem qql {a:qn} (h:qc9 a≤1048576):Ev (fun n=>qgB n a a) true:=by
 unfold qgB
 simp only [qc9] at h
 exact Ev.bind (qsJ (a:=a.Ak) (by omega)) (Ev.ff rfl (.done))
theorem qpx {a:qd} (h:qa5 a≤1048576):Ev (fun n=>qeF n a a) true:=by
 unfold qeF
 simp only [qa5] at h
 exact Ev.ff qhR (Ev.ff qax (Ev.bind (qdr (a:=a.Ah) (by omega)) (Ev.ff rfl (.done))))
theorem qoW {a:(List qd)} (h:qbc a≤1048576):Ev (fun n=>qfz n a a) true:=by
 have hl:a.length≤1048576:=by simp only [qbc] at h;omega
 unfold qfz
 exact Ev.ff (by simp) (Ev.bind (b:=.nxt (a.length:Int)) (qfS (eqf:=qeF) (fun x hx=>qpx (by have:=qbw (wt:=fun x:qd=>qa5 x) hx;simp only [qbc] at h;omega))
  (fun n=>by simp only [qcG,qj (je _),cond_false])
  (fun n j x hx=>by
   have hj:=(List.getElem?_eq_some_iff.1 hx).1
   simp only [qcG,qi hj,cond_true,qz hx,jd,wS j])) .done)
theorem qqH {a:(List ByteArray)} (h:qc0 a≤1048576):Ev (fun n=>qgC n a a) true:=by
 have hl:a.length≤1048576:=by simp only [qc0] at h;omega
 unfold qgC
 exact Ev.ff (by simp) (Ev.bind (b:=.nxt (a.length:Int)) (qfS (eqf:=fun _ x y=>some (!(x.toList != y.toList))) (fun x _=>Ev.now (by simp))
  (fun n=>by simp only [qdM,qj (je _),cond_false])
  (fun n j x hx=>by
   have hj:=(List.getElem?_eq_some_iff.1 hx).1
   simp only [qdM,qi hj,cond_true,qz hx,jd,Bool.not_not,wS j])) .done)
theorem qs7 {a:qB} (_:qf1 a≤1048576):Ev (fun n=>qhu n a a) true:=by
 unfold qhu
 exact Ev.ff qhR (Ev.ff qax (Ev.ff qax (.done)))
theorem qsZ {a:(List qB)} (h:qep a≤1048576):Ev (fun n=>qhV n a a) true:=by
 have hl:a.length≤1048576:=by simp only [qep] at h;omega
 unfold qhV
 exact Ev.ff (by simp) (Ev.bind (b:=.nxt (a.length:Int)) (qfS (eqf:=qhu) (fun x hx=>qs7 (by have:=qbw (wt:=fun x:qB=>qf1 x) hx;simp only [qep] at h;omega))
  (fun n=>by simp only [qeO,qj (je _),cond_false])
  (fun n j x hx=>by
   have hj:=(List.getElem?_eq_some_iff.1 hx).1
   simp only [qeO,qi hj,cond_true,qz hx,jd,wS j])) .done)
theorem qro {a:qc} (h:qdi a≤1048576):Ev (fun n=>qg9 n a a) true:=by
 unfold qg9
 simp only [qdi] at h
 exact Ev.bind (qoW (a:=a.Aa) (by omega)) (Ev.ff rfl (Ev.bind (qqH (a:=a.Ah) (by omega)) (Ev.ff rfl (Ev.bind (qsZ (a:=a.Af) (by omega)) (Ev.ff rfl (.done))))))
theorem qtb {a:qw} (h:qd9 a≤1048576):Ev (fun n=>qhr n a a) true:=by
 unfold qhr
 simp only [qd9] at h
 exact Ev.bind (qdr (a:=a.Ai) (by omega)) (Ev.ff rfl (Ev.bind (qdr (a:=a.Bn) (by omega)) (Ev.ff rfl (Ev.bind (qdr (a:=a.Bk) (by omega)) (Ev.ff rfl (Ev.bind (qdr (a:=a.Bg) (by omega)) (Ev.ff rfl (.done))))))))
theorem qsp {a:(List qw)} (h:qeq a≤1048576):Ev (fun n=>qhJ n a a) true:=by
 have hl:a.length≤1048576:=by simp only [qeq] at h;omega
 unfold qhJ
 exact Ev.ff (by simp) (Ev.bind (b:=.nxt (a.length:Int)) (qfS (eqf:=qhr) (fun x hx=>qtb (by have:=qbw (wt:=fun x:qw=>qd9 x) hx;simp only [qeq] at h;omega))
  (fun n=>by simp only [qeD,qj (je _),cond_false])
  (fun n j x hx=>by
   have hj:=(List.getElem?_eq_some_iff.1 hx).1
   simp only [qeD,qi hj,cond_true,qz hx,jd,wS j])) .done)
theorem qsy {a:qk} (h:qew a≤1048576):Ev (fun n=>qhD n a a) true:=by
 unfold qhD
 simp only [qew] at h
 exact Ev.bind (qql (a:=a.Au) (by omega)) (Ev.ff rfl (Ev.bind (qro (a:=a.Ab) (by omega)) (Ev.ff rfl (Ev.bind (qsp (a:=a.Ac) (by omega)) (Ev.ff rfl (.done))))))
theorem qfu {a:(List Int)} {left:Int} (h:(rngL rngI) a) (h0:0≤left) (h1:left≤1048576):Sz (fun n=>qbr n a left) (fun r=>r=left-(qaw a:Int)) :=
 Sz.less h0 h1 (by omega) (by have:=h.1;omega) (fun _=>rfl)
theorem qr2 {a:qq} {left:Int} (h:qgb a) (h0:0≤left) (h1:left≤1048576):Sz (fun n=>qgD n a left) (fun r=>r=left-(qcM a:Int)):=by
 unfold qgD
 obtain ⟨h_0,h_1,h_2⟩:=h
 exact Sz.step (qfu (a:=a.Bf) h_0 (by omega) (by omega)) fun r0 p0 q0=>Sz.step (qfu (a:=a.Be) h_1 (by omega) (by omega)) fun r1 p1 q1=>Sz.step (qfu (a:=a.Av) h_2 (by omega) (by omega)) fun r2 p2 q2=>Sz.done p2 (by simp only [qcM];omega)
theorem qon {a:(List qq)} {left:Int} (h:(rngL qgb) a) (h0:0≤left) (h1:left≤1048576):Sz (fun n=>qgW n a left) (fun r=>r=left-(qb3 a:Int)) :=
 Sz.list (Lf:=qc2 a) (wt:=fun x:qq=>qcM x) (el:=qgD) h0 h1 h.1 (fun x hx left p q=>qr2 (h.2 x hx) p q)
  (fun acc n=>by simp only [qc2,qj (je _),cond_false])
  (fun acc n j x hx=>by
   have hj:=(List.getElem?_eq_some_iff.1 hx).1
   have hl:=h.1
   simp only [qc2,qi hj,cond_true,qz hx,jd,wS j])
  (fun _=>rfl)
theorem quf {a:qF} {left:Int} (h:qjw a) (h0:0≤left) (h1:left≤1048576):Sz (fun n=>qid n a left) (fun r=>r=left-(qgH a:Int)):=by
 unfold qid
 obtain ⟨h_0,h_1,h_2,h_3,h_4,h_5⟩:=h
 exact Sz.step (qon (a:=a.Bb) h_4 (by omega) (by omega)) fun r0 p0 q0=>Sz.step (qon (a:=a.Az) h_5 (by omega) (by omega)) fun r1 p1 q1=>Sz.done p1 (by simp only [qgH];omega)
theorem qtu {a:(List qF)} {left:Int} (h:(rngL qjw) a) (h0:0≤left) (h1:left≤1048576):Sz (fun n=>qj7 n a left) (fun r=>r=left-(qfD a:Int)) :=
 Sz.list (Lf:=qd4 a) (wt:=fun x:qF=>qgH x) (el:=qid) h0 h1 h.1 (fun x hx left p q=>quf (h.2 x hx) p q)
  (fun acc n=>by simp only [qd4,qj (je _),cond_false])
  (fun acc n j x hx=>by
   have hj:=(List.getElem?_eq_some_iff.1 hx).1
   have hl:=h.1
   simp only [qd4,qi hj,cond_true,qz hx,jd,wS j])
  (fun _=>rfl)
theorem qt6 {a:qO} {left:Int} (h:qjm a) (h0:0≤left) (h1:left≤1048576):Sz (fun n=>qih n a left) (fun r=>r=left-(qiu a:Int)):=by
 unfold qih
 obtain ⟨h_0,h_1,h_2,h_3⟩:=h
 exact Sz.strStep h_0 (by omega) (by omega) fun p0 q0=>Sz.done p0 (by simp only [qiu];omega)
theorem qtP {a:(List qO)} {left:Int} (h:(rngL qjm) a) (h0:0≤left) (h1:left≤1048576):Sz (fun n=>qjR n a left) (fun r=>r=left-(qfE a:Int)) :=
 Sz.list (Lf:=qee a) (wt:=fun x:qO=>qiu x) (el:=qih) h0 h1 h.1 (fun x hx left p q=>qt6 (h.2 x hx) p q)
  (fun acc n=>by simp only [qee,qj (je _),cond_false])
  (fun acc n j x hx=>by
   have hj:=(List.getElem?_eq_some_iff.1 hx).1
   have hl:=h.1
   simp only [qee,qi hj,cond_true,qz hx,jd,wS j])
  (fun _=>rfl)
theorem qtB {a:qp} {left:Int} (h:qiv a) (h0:0≤left) (h1:left≤1048576):Sz (fun n=>qhq n a left) (fun r=>r=left-(qeh a:Int)):=by
 unfold qhq
 obtain ⟨h_0,h_1,h_2,h_3,h_4,h_5,h_6⟩:=h
 exact Sz.strStep h_0 (by omega) (by omega) fun p0 q0=>Sz.step (qtP (a:=a.Am) h_2 (by omega) (by omega)) fun r1 p1 q1=>Sz.step (qtu (a:=a.Aj) h_3 (by omega) (by omega)) fun r2 p2 q2=>Sz.step (qfu (a:=a.Bc) h_4 (by omega) (by omega)) fun r3 p3 q3=>Sz.done p3 (by simp only [qeh];omega)
theorem qsu {a:(List qp)} {left:Int} (h:(rngL qiv) a) (h0:0≤left) (h1:left≤1048576):Sz (fun n=>qjv n a left) (fun r=>r=left-(qen a:Int)) :=
 Sz.list (Lf:=qdq a) (wt:=fun x:qp=>qeh x) (el:=qhq) h0 h1 h.1 (fun x hx left p q=>qtB (h.2 x hx) p q)
  (fun acc n=>by simp only [qdq,qj (je _),cond_false])
  (fun acc n j x hx=>by
   have hj:=(List.getElem?_eq_some_iff.1 hx).1
   have hl:=h.1
   simp only [qdq,qi hj,cond_true,qz hx,jd,wS j])
  (fun _=>rfl)
theorem qqx {a:qn} {left:Int} (h:qiQ a) (h0:0≤left) (h1:left≤1048576):Sz (fun n=>qgg n a left) (fun r=>r=left-(qc9 a:Int)):=by
 unfold qgg
 have h_0:=h
 exact Sz.step (qsu (a:=a.Ak) h_0 (by omega) (by omega)) fun r0 p0 q0=>Sz.done p0 (by simp only [qc9];omega)
theorem qpO {a:qd} {left:Int} (h:qet a) (h0:0≤left) (h1:left≤1048576):Sz (fun n=>qeI n a left) (fun r=>r=left-(qa5 a:Int)):=by
 unfold qeI
 obtain ⟨h_0,h_1,h_2⟩:=h
 exact Sz.strStep h_0 (by omega) (by omega) fun p0 q0=>Sz.step (qfu (a:=a.Ah) h_2 (by omega) (by omega)) fun r1 p1 q1=>Sz.done p1 (by simp only [qa5];omega)
theorem qo6 {a:(List qd)} {left:Int} (h:(rngL qet) a) (h0:0≤left) (h1:left≤1048576):Sz (fun n=>qgN n a left) (fun r=>r=left-(qbc a:Int)) :=
 Sz.list (Lf:=qbV a) (wt:=fun x:qd=>qa5 x) (el:=qeI) h0 h1 h.1 (fun x hx left p q=>qpO (h.2 x hx) p q)
  (fun acc n=>by simp only [qbV,qj (je _),cond_false])
  (fun acc n j x hx=>by
   have hj:=(List.getElem?_eq_some_iff.1 hx).1
   have hl:=h.1
   simp only [qbV,qi hj,cond_true,qz hx,jd,wS j])
  (fun _=>rfl)
theorem qqF {a:(List ByteArray)} {left:Int} (h:(rngL rngS) a) (h0:0≤left) (h1:left≤1048576):Sz (fun n=>qil n a left) (fun r=>r=left-(qc0 a:Int)) :=
 Sz.list (Lf:=qct a) (wt:=fun x:ByteArray=>x.size) (el:=fun _ (x:ByteArray) acc=>some (W64 (acc-(x.size:Int)))) h0 h1 h.1 (fun x hx left p q=>Sz.str (h.2 x hx) p q)
  (fun acc n=>by simp only [qct,qj (je _),cond_false])
  (fun acc n j x hx=>by
   have hj:=(List.getElem?_eq_some_iff.1 hx).1
   have hl:=h.1
   simp only [qct,qi hj,cond_true,qz hx,jd,wS j])
  (fun _=>rfl)
theorem qto {a:qB} {left:Int} (h:qis a) (h0:0≤left) (h1:left≤1048576):Sz (fun n=>qhf n a left) (fun r=>r=left-(qf1 a:Int)):=by
 unfold qhf
 obtain ⟨h_0,h_1,h_2⟩:=h
 exact Sz.strStep h_0 (by omega) (by omega) fun p0 q0=>Sz.done p0 (by simp only [qf1];omega)
theorem qsb {a:(List qB)} {left:Int} (h:(rngL qis) a) (h0:0≤left) (h1:left≤1048576):Sz (fun n=>qjo n a left) (fun r=>r=left-(qep a:Int)) :=
 Sz.list (Lf:=qdv a) (wt:=fun x:qB=>qf1 x) (el:=qhf) h0 h1 h.1 (fun x hx left p q=>qto (h.2 x hx) p q)
  (fun acc n=>by simp only [qdv,qj (je _),cond_false])
  (fun acc n j x hx=>by
   have hj:=(List.getElem?_eq_some_iff.1 hx).1
   have hl:=h.1
   simp only [qdv,qi hj,cond_true,qz hx,jd,wS j])
  (fun _=>rfl)
theorem qry {a:qc} {left:Int} (h:qjt a) (h0:0≤left) (h1:left≤1048576):Sz (fun n=>qgY n a left) (fun r=>r=left-(qdi a:Int)):=by
 unfold qgY
 obtain ⟨h_0,h_1,h_2⟩:=h
 exact Sz.step (qo6 (a:=a.Aa) h_0 (by omega) (by omega)) fun r0 p0 q0=>Sz.step (qqF (a:=a.Ah) h_1 (by omega) (by omega)) fun r1 p1 q1=>Sz.step (qsb (a:=a.Af) h_2 (by omega) (by omega)) fun r2 p2 q2=>Sz.done p2 (by simp only [qdi];omega)
theorem qtp {a:qw} {left:Int} (h:qit a) (h0:0≤left) (h1:left≤1048576):Sz (fun n=>qhn n a left) (fun r=>r=left-(qd9 a:Int)):=by
 unfold qhn
 obtain ⟨h_0,h_1,h_2,h_3⟩:=h
 exact Sz.step (qfu (a:=a.Ai) h_0 (by omega) (by omega)) fun r0 p0 q0=>Sz.step (qfu (a:=a.Bn) h_1 (by omega) (by omega)) fun r1 p1 q1=>Sz.step (qfu (a:=a.Bk) h_2 (by omega) (by omega)) fun r2 p2 q2=>Sz.step (qfu (a:=a.Bg) h_3 (by omega) (by omega)) fun r3 p3 q3=>Sz.done p3 (by simp only [qd9];omega)
theorem qsl {a:(List qw)} {left:Int} (h:(rngL qit) a) (h0:0≤left) (h1:left≤1048576):Sz (fun n=>qji n a left) (fun r=>r=left-(qeq a:Int)) :=
 Sz.list (Lf:=qdt a) (wt:=fun x:qw=>qd9 x) (el:=qhn) h0 h1 h.1 (fun x hx left p q=>qtp (h.2 x hx) p q)
  (fun acc n=>by simp only [qdt,qj (je _),cond_false])
  (fun acc n j x hx=>by
   have hj:=(List.getElem?_eq_some_iff.1 hx).1
   have hl:=h.1
   simp only [qdt,qi hj,cond_true,qz hx,jd,wS j])
  (fun _=>rfl)
theorem qsR {a:qk} {left:Int} (h:qkq a) (h0:0≤left) (h1:left≤1048576):Sz (fun n=>qhF n a left) (fun r=>r=left-(qew a:Int)):=by
 unfold qhF
 obtain ⟨h_0,h_1,h_2⟩:=h
 exact Sz.step (qqx (a:=a.Au) h_0 (by omega) (by omega)) fun r0 p0 q0=>Sz.step (qry (a:=a.Ab) h_1 (by omega) (by omega)) fun r1 p1 q1=>Sz.step (qsl (a:=a.Ac) h_2 (by omega) (by omega)) fun r2 p2 q2=>Sz.done p2 (by simp only [qew];omega)
theorem qfj {a:(List Int)} (h:qaw a≤1048576):Ev (fun n=>qbf n a) a:=by
 have hl:a.length≤1048576:=by simp only [qaw] at h;omega
 unfold qbf
 exact Ev.bindN (qfm (by omega)) (Ev.bind (b:=(a,(a.length:Int))) (qfP (cp:=fun _ x=>some x) (fun _ _=>.done)
  (fun acc n=>by simp only [qdX,qj (je _),cond_false])
  (fun acc n j x y hx hy=>by
   have hj:=(List.getElem?_eq_some_iff.1 hx).1
   simp only [qdX,qi hj,cond_true,qz hx,qz hy,jd,wS j])) .done)
theorem qsd {a:qq} (h:qcM a≤1048576):Ev (fun n=>qgx n a) a:=by
 unfold qgx
 simp only [qcM] at h
 exact Ev.bind (qfj (a:=a.Bf) (by omega)) (Ev.bind (qfj (a:=a.Be) (by omega)) (Ev.bind (qfj (a:=a.Av) (by omega)) (.done)))
theorem qow {a:(List qq)} (h:qb3 a≤1048576):Ev (fun n=>qfM n a) a:=by
 have hl:a.length≤1048576:=by simp only [qb3] at h;omega
 unfold qfM
 exact Ev.bindN (qfm (by omega)) (Ev.bind (b:=(a,(a.length:Int))) (qfP (cp:=qgx) (fun x hx=>qsd (by have:=qbw (wt:=fun x:qq=>qcM x) hx;simp only [qb3] at h;omega))
  (fun acc n=>by simp only [qea,qj (je _),cond_false])
  (fun acc n j x y hx hy=>by
   have hj:=(List.getElem?_eq_some_iff.1 hx).1
   simp only [qea,qi hj,cond_true,qz hx,qz hy,jd,wS j])) .done)
theorem qux {a:qF} (h:qgH a≤1048576):Ev (fun n=>qir n a) a:=by
 unfold qir
 simp only [qgH] at h
 exact Ev.bind (qow (a:=a.Bb) (by omega)) (Ev.bind (qow (a:=a.Az) (by omega)) (.done))
theorem qtI {a:(List qF)} (h:qfD a≤1048576):Ev (fun n=>qiM n a) a:=by
 have hl:a.length≤1048576:=by simp only [qfD] at h;omega
 unfold qiM
 exact Ev.bindN (qfm (by omega)) (Ev.bind (b:=(a,(a.length:Int))) (qfP (cp:=qir) (fun x hx=>qux (by have:=qbw (wt:=fun x:qF=>qgH x) hx;simp only [qfD] at h;omega))
  (fun acc n=>by simp only [qe8,qj (je _),cond_false])
  (fun acc n j x y hx hy=>by
   have hj:=(List.getElem?_eq_some_iff.1 hx).1
   simp only [qe8,qi hj,cond_true,qz hx,qz hy,jd,wS j])) .done)
theorem qur {a:qO} (_:qiu a≤1048576):Ev (fun n=>qio n a) a:=by
 unfold qio
 exact .done
theorem qtG {a:(List qO)} (h:qfE a≤1048576):Ev (fun n=>qiD n a) a:=by
 have hl:a.length≤1048576:=by simp only [qfE] at h;omega
 unfold qiD
 exact Ev.bindN (qfm (by omega)) (Ev.bind (b:=(a,(a.length:Int))) (qfP (cp:=qio) (fun x hx=>qur (by have:=qbw (wt:=fun x:qO=>qiu x) hx;simp only [qfE] at h;omega))
  (fun acc n=>by simp only [qfc,qj (je _),cond_false])
  (fun acc n j x y hx hy=>by
   have hj:=(List.getElem?_eq_some_iff.1 hx).1
   simp only [qfc,qi hj,cond_true,qz hx,qz hy,jd,wS j])) .done)
theorem qtJ {a:qp} (h:qeh a≤1048576):Ev (fun n=>qhg n a) a:=by
 unfold qhg
 simp only [qeh] at h
 exact Ev.bind (qtG (a:=a.Am) (by omega)) (Ev.bind (qtI (a:=a.Aj) (by omega)) (Ev.bind (qfj (a:=a.Bc) (by omega)) (.done)))
theorem qsP {a:(List qp)} (h:qen a≤1048576):Ev (fun n=>qhW n a) a:=by
 have hl:a.length≤1048576:=by simp only [qen] at h;omega
 unfold qhW
 exact Ev.bindN (qfm (by omega)) (Ev.bind (b:=(a,(a.length:Int))) (qfP (cp:=qhg) (fun x hx=>qtJ (by have:=qbw (wt:=fun x:qp=>qeh x) hx;simp only [qen] at h;omega))
  (fun acc n=>by simp only [qeH,qj (je _),cond_false])
  (fun acc n j x y hx hy=>by
   have hj:=(List.getElem?_eq_some_iff.1 hx).1
   simp only [qeH,qi hj,cond_true,qz hx,qz hy,jd,wS j])) .done)
theorem qqw {a:qn} (h:qc9 a≤1048576):Ev (fun n=>qgs n a) a:=by
 unfold qgs
 simp only [qc9] at h
 exact Ev.bind (qsP (a:=a.Ak) (by omega)) (.done)
theorem qpC {a:qd} (h:qa5 a≤1048576):Ev (fun n=>qeL n a) a:=by
 unfold qeL
 simp only [qa5] at h
 exact Ev.bind (qfj (a:=a.Ah) (by omega)) (.done)
theorem qoZ {a:(List qd)} (h:qbc a≤1048576):Ev (fun n=>qfn n a) a:=by
 have hl:a.length≤1048576:=by simp only [qbc] at h;omega
 unfold qfn
 exact Ev.bindN (qfm (by omega)) (Ev.bind (b:=(a,(a.length:Int))) (qfP (cp:=qeL) (fun x hx=>qpC (by have:=qbw (wt:=fun x:qd=>qa5 x) hx;simp only [qbc] at h;omega))
  (fun acc n=>by simp only [qcI,qj (je _),cond_false])
  (fun acc n j x y hx hy=>by
   have hj:=(List.getElem?_eq_some_iff.1 hx).1
   simp only [qcI,qi hj,cond_true,qz hx,qz hy,jd,wS j])) .done)
theorem qqT {a:(List ByteArray)} (h:qc0 a≤1048576):Ev (fun n=>qgf n a) a:=by
 have hl:a.length≤1048576:=by simp only [qc0] at h;omega
 unfold qgf
 exact Ev.bindN (qfm (by omega)) (Ev.bind (b:=(a,(a.length:Int))) (qfP (cp:=fun _ x=>some x) (fun _ _=>.done)
  (fun acc n=>by simp only [qdH,qj (je _),cond_false])
  (fun acc n j x y hx hy=>by
   have hj:=(List.getElem?_eq_some_iff.1 hx).1
   simp only [qdH,qi hj,cond_true,qz hx,qz hy,jd,wS j])) .done)
theorem qtH {a:qB} (_:qf1 a≤1048576):Ev (fun n=>qha n a) a:=by
 unfold qha
 exact .done
theorem qr7 {a:(List qB)} (h:qep a≤1048576):Ev (fun n=>qhU n a) a:=by
 have hl:a.length≤1048576:=by simp only [qep] at h;omega
 unfold qhU
 exact Ev.bindN (qfm (by omega)) (Ev.bind (b:=(a,(a.length:Int))) (qfP (cp:=qha) (fun x hx=>qtH (by have:=qbw (wt:=fun x:qB=>qf1 x) hx;simp only [qep] at h;omega))
  (fun acc n=>by simp only [qeM,qj (je _),cond_false])
  (fun acc n j x y hx hy=>by
   have hj:=(List.getElem?_eq_some_iff.1 hx).1
   simp only [qeM,qi hj,cond_true,qz hx,qz hy,jd,wS j])) .done)
theorem qrL {a:qc} (h:qdi a≤1048576):Ev (fun n=>qg5 n a) a:=by
 unfold qg5
 simp only [qdi] at h
 exact Ev.bind (qoZ (a:=a.Aa) (by omega)) (Ev.bind (qqT (a:=a.Ah) (by omega)) (Ev.bind (qr7 (a:=a.Af) (by omega)) (.done)))
theorem qtf {a:qw} (h:qd9 a≤1048576):Ev (fun n=>qhm n a) a:=by
 unfold qhm
 simp only [qd9] at h
 exact Ev.bind (qfj (a:=a.Ai) (by omega)) (Ev.bind (qfj (a:=a.Bn) (by omega)) (Ev.bind (qfj (a:=a.Bk) (by omega)) (Ev.bind (qfj (a:=a.Bg) (by omega)) (.done))))
theorem qr5 {a:(List qw)} (h:qeq a≤1048576):Ev (fun n=>qhI n a) a:=by
 have hl:a.length≤1048576:=by simp only [qeq] at h;omega
 unfold qhI
 exact Ev.bindN (qfm (by omega)) (Ev.bind (b:=(a,(a.length:Int))) (qfP (cp:=qhm) (fun x hx=>qtf (by have:=qbw (wt:=fun x:qw=>qd9 x) hx;simp only [qeq] at h;omega))
  (fun acc n=>by simp only [qez,qj (je _),cond_false])
  (fun acc n j x y hx hy=>by
   have hj:=(List.getElem?_eq_some_iff.1 hx).1
   simp only [qez,qi hj,cond_true,qz hx,qz hy,jd,wS j])) .done)
theorem qle {a:qk} (h:qew a≤1048576):Ev (fun n=>qer n a) a:=by
 unfold qer
 simp only [qew] at h
 exact Ev.bind (qqw (a:=a.Au) (by omega)) (Ev.bind (qrL (a:=a.Ab) (by omega)) (Ev.bind (qr5 (a:=a.Ac) (by omega)) (.done)))
end Go.Fw


namespace Go.Fw
open Go
set_option maxRecDepth 100000
theorem qef {n:Nat} {x lo hi:Int}:qX n x lo hi=some (inI x lo hi):=by
 simp only [qX,qjO,qk9];rfl
theorem qcq {n:Nat} {x lo hi:Int}:qam n x lo hi=some (inI x lo hi):=by
 simp only [qam,qjO,qk9];rfl
def bt (s:ByteArray) (j:Nat):Nat:=(s.data.toList.getD j 0).toNat
theorem qsB {s:ByteArray} {j:Nat} (h:j<s.size):atS s (j:Int)=some (bt s j:Int):=by
 have h':j<s.data.size:=h
 have hl:j<s.data.toList.length:=by simpa using h'
 unfold atS
 rw [if_pos (by omega),jy]
 have:s[j]?=some (s.data.toList.getD j 0):=by
  rw [getElem?_pos s j h,jJ,ji hl]
  rfl
 rw [this]
 rfl
def letB (b:Nat):Bool:=decide (97≤b)&&decide (b≤122)
def digB (b:Nat):Bool:=decide (48≤b)&&decide (b≤57)
def chB (s:ByteArray) (j:Nat):Bool:=letB (bt s j) || digB (bt s j)&&decide (0<j)
def nameB (s:ByteArray):Bool:=(decide (1≤s.size)&&decide (s.size≤8))&&allN (chB s) s.size
theorem qkY {s:ByteArray} (h:okS s):Ev (fun n=>qfh n s) (nameB s):=by
 unfold okS at h
 have hL:Ev (fun n=>qcA s n 0) (bif allN (chB s) s.size then .nxt (s.size:Int) else .ret false):=by
  refine qde ?_ (fun j hj X hX=>?_)
  ·exact Ev.succ (by simp only [qcA,qj (je _),cond_false];exact .done)
  ·refine Ev.succ ?_
   simp only [qcA,qi hj,cond_true,qsB hj,jd,qjO,qk9,wS j]
   have e1:(decide ((bt s j:Int) ≥ 97)&&decide ((bt s j:Int)≤122))=letB (bt s j):=by unfold letB;rw [jh];simp;omega
   have e2:(decide ((bt s j:Int) ≥ 48)&&decide ((bt s j:Int)≤57))=digB (bt s j):=by unfold digB;rw [jh];simp;omega
   have e3:decide ((j:Int) > 0)=decide (0<j):=by rw [jh];simp
   rw [e1,e2,e3]
   unfold chB
   cases letB (bt s j)<;>cases digB (bt s j)<;>cases decide (0<j)<;>first|exact hX|exact .done
 unfold qfh
 refine Ev.cast (r:=bif allN (chB s) s.size then (decide (1≤s.size)&&decide (s.size≤8)) else false) (Ev.bindB hL (fun _=>?_) (fun _=>.done)) ?_
 ·simp only [qjO,qk9]
  exact Ev.now (by congr 1;rw [jh];simp;omega)
 ·unfold nameB
  cases allN (chB s) s.size<;>simp
def cutset:List UInt8:=[97,98,99,100,101,102,103,104,105,106,107,108,109,110,111,112,113,114,115,116,117,118,119,120,121,122,48,49,50,51,52,53,54,55,56,57]
theorem qnh (b:UInt8):cutset.contains b=(letB b.toNat || digB b.toNat):=by
 have h0:(List.range 256).all (fun m=>cutset.contains (UInt8.ofNat m)==(letB (UInt8.ofNat m).toNat || digB (UInt8.ofNat m).toNat))=true:=by kernel_rfl
 have h:=List.all_eq_true.1 h0 b.toNat (List.mem_range.2 b.toNat_lt)
 rw [beq_iff_eq] at h
 simpa using h
def letters:List UInt8:=[97,98,99,100,101,102,103,104,105,106,107,108,109,110,111,112,113,114,115,116,117,118,119,120,121,122]
theorem qqV (m:Nat) (hm:m<256):decide ((Lib.indexByte letters m.toUInt8) ≥ 0)=letB m:=by
 have h0:(List.range 256).all (fun m=>decide ((Lib.indexByte letters m.toUInt8) ≥ 0)==letB m)=true:=by kernel_rfl
 have h:=List.all_eq_true.1 h0 m (List.mem_range.2 hm)
 rwa [beq_iff_eq] at h
theorem qnM {α:Type} {p:α→Bool} {l:List α}:l.dropWhile p=[]↔∀ x,x ∈ l→p x=true:=by
 induction l with
 | nil=>simp
 | cons y l ih =>
  rw [List.dropWhile_cons]
  by_cases h:p y=true
  ·rw [if_pos h,ih];simp [h]
  ·rw [if_neg h];simp [h]
theorem qnP {α:Type} {p:α→Bool} {l:List α} (h:∀ x,x ∈ l.dropWhile p→p x=true):∀ x,x ∈ l→p x=true:=by
 induction l with
 | nil=>simp
 | cons y l ih =>
  rw [List.dropWhile_cons] at h
  by_cases hy:p y=true
  ·rw [if_pos hy] at h
   intro x hx
   rcases List.mem_cons.1 hx with rfl|hx
   ·exact hy
   ·exact ih h x hx
  ·rw [if_neg hy] at h
   exact h
theorem qsi {l cs:List UInt8}:Lib.trimS l cs=[]↔∀ x,x ∈ l→cs.contains x=true:=by
 unfold Lib.trimS Lib.trimRightS Lib.trimLeftS
 rw [qnM]
 constructor
 ·intro h x hx
  exact qnP (p:=(cs.contains ·)) (l:=l.reverse) (fun y hy=>h y (List.mem_reverse.2 hy)) x (List.mem_reverse.2 hx)
 ·intro h x hx
  exact h x (List.mem_reverse.1 ((List.dropWhile_suffix _).subset (List.mem_reverse.1 hx)))
theorem qfK {a b:ByteArray}:(a.toList==b.toList)=decide (a=b):=by
 rw [jh,beq_iff_eq,decide_eq_true_iff]
 constructor
 ·intro h
  exact ByteArray.ext (by have:=congrArg List.toArray h;simpa [ByteArray.toList_eq] using this)
 ·rintro rfl;rfl
end Go.Fw


namespace Go.Fw
open Go
set_option maxRecDepth 100000
theorem qt3 {s:ByteArray} {j:Nat} (h:j<s.data.toList.length):bt s j=(s.data.toList[j]).toNat:=by
 unfold bt;rw [jJ,ji h];rfl
theorem quB {s:ByteArray} {j:Nat}:bt s j<256:=UInt8.toNat_lt _
theorem qog {n:Nat} {s:ByteArray} (h:okS s):qhd n s=some (nameB s):=by
 unfold okS at h
 have hl:s.data.toList.length=s.size:=by simp
 simp only [qhd,qcq,jd]
 cases hI:inI (s.size:Int) 1 8 with
 | false =>
  have hs:(decide (1≤s.size)&&decide (s.size≤8))=false:=by rw [qrY] at hI;rw [Bool.and_eq_false_iff,decide_eq_false_iff_not,decide_eq_false_iff_not];omega
  simp [nameB,hs]
 | true =>
  have hs:1≤s.size∧s.size≤8:=by rw [qbG] at hI;omega
  have hT:qgd n s (⟨#[97,98,99,100,101,102,103,104,105,106,107,108,109,110,111,112,113,114,115,116,117,118,119,120,121,122,48,49,50,51,52,53,54,55,56,57]⟩:ByteArray)=some ⟨(Lib.trimS s.data.toList cutset).toArray⟩:=by
   unfold qgd
   rw [if_pos ⟨by omega,by decide,by decide⟩]
   rfl
  rw [hT]
  simp only [cond_true,jd]
  have hE:(((⟨(Lib.trimS s.data.toList cutset).toArray⟩:ByteArray).toList==(⟨#[]⟩:ByteArray).toList))=allN (fun j=>letB (bt s j) || digB (bt s j)) s.size:=by
   rw [qfK,jh,decide_eq_true_iff,qap]
   have:((⟨(Lib.trimS s.data.toList cutset).toArray⟩:ByteArray)=⟨#[]⟩)↔Lib.trimS s.data.toList cutset=[]:=by
    constructor
    ·intro he
     have:=congrArg (fun x:ByteArray=>x.data.toList) he
     simpa using this
    ·intro he;rw [he]
   rw [this,qsi]
   constructor
   ·intro hx j hj
    have hj':j<s.data.toList.length:=by omega
    have:=hx _ (js hj')
    rw [qnh,←qt3 hj'] at this
    exact this
   ·intro hx x hm
    obtain ⟨j,hj,rfl⟩:=jG hm
    have:=hx j (by omega)
    rw [qnh,←qt3 hj]
    exact this
  rw [hE]
  have h0:atS s 0=some (bt s 0:Int):=qsB (j:=0) (by omega)
  have hI2:decide (Lib.indexByte letters (bt s 0:Int).toNat.toUInt8 ≥ 0)=letB (bt s 0):=by
   rw [jy];exact qqV _ quB
  have hF:∀ b:Bool,(bif b then (atS s 0).bind fun y1=>(qeZ n (⟨#[97,98,99,100,101,102,103,104,105,106,107,108,109,110,111,112,113,114,115,116,117,118,119,120,121,122]⟩:ByteArray) (⟨y1⟩:IntK .u8)).bind fun r3=>some (decide (r3 ≥ 0)) else some false)=some (b&&letB (bt s 0)):=by
   intro b
   cases b with
   | false=>rfl
   | true =>
    rw [h0]
    simp only [cond_true,jd,qeZ,jA]
    exact congrArg some hI2
  rw [hF]
  congr 1
  have hs':(decide (1≤s.size)&&decide (s.size≤8))=true:=by simp [hs]
  unfold nameB
  rw [hs',jA,jh,jf,qap,qap]
  simp only [chB,Bool.or_eq_true,jf,decide_eq_true_eq]
  constructor
  ·rintro ⟨h1,h2⟩ j hj
   rcases Nat.eq_zero_or_pos j with rfl|hp
   ·exact .inl h2
   ·exact (h1 j hj).imp id (fun h=>⟨h,hp⟩)
  ·intro h1
   refine ⟨fun j hj=>(h1 j hj).imp id (fun h=>h.1),?_⟩
   rcases h1 0 (by omega) with h2|h2
   ·exact h2
   ·omega
def strAt (xs:List ByteArray) (j:Nat):ByteArray:=xs.getD j ByteArray.empty
theorem qld {xs:List ByteArray} {j:Nat} (h:j<xs.length):strAt xs j=xs[j]:=by simp [strAt,h]
theorem qmP {xs:List ByteArray} {j:Nat} (h:j<xs.length):idx xs (j:Int)=some (strAt xs j):=by rw [qf6 h,qld h]
def neB (xs:List ByteArray) (j i:Nat):Bool:=!decide (strAt xs i=strAt xs j)
def namesB (xs:List ByteArray):Bool:=allN (fun j=>nameB (strAt xs j)&&allN (neB xs j) j) xs.length
theorem qj8 {xs:List ByteArray} (h:okL okS xs):Ev (fun n=>qeQ n xs) (namesB xs):=by
 have hl:=h.len
 have hL2:∀ j,j<xs.length→Ev (fun n=>qdc xs (j:Int) n 0) (bif allN (neB xs j) j then .nxt (j:Int) else .ret false):=by
  intro j hj
  refine qde ?_ (fun i hi X hX=>Ev.succ ?_)
  ·exact Ev.succ (by simp only [qdc,qj (je _),cond_false];exact .done)
  ·simp only [qdc,qi hi,cond_true,qmP (show i<xs.length by omega),qmP hj,jd,qfK,wS i]
   unfold neB
   cases decide (strAt xs i=strAt xs j)
   ·exact hX
   ·exact .done
 have hL1:Ev (fun n=>qcZ xs n 0) (bif namesB xs then .nxt (xs.length:Int) else .ret false):=by
  refine qde ?_ (fun j hj X hX=>Ev.succ ?_)
  ·exact Ev.succ (by simp only [qcZ,qj (je _),cond_false];exact .done)
  ·simp only [qcZ,qi hj,cond_true,qmP hj,jd,wS j]
   refine Ev.bind (qkY (by rw [qld hj];exact h.at hj)) ?_
   cases nameB (strAt xs j)
   ·exact .done
   ·refine Ev.ff rfl (Ev.bind (hL2 j hj) ?_)
    cases allN (neB xs j) j
    ·exact .done
    ·exact hX
 unfold qeQ
 refine Ev.bind hL1 ?_
 cases namesB xs<;>exact .done
theorem qpB {xs:List ByteArray} {v:ByteArray} (hl:xs.length≤1048576):Ev (fun n=>qdW n xs v) (ixL (fun x=>decide (v=x)) xs) :=
 qfF (fin:=(xs.length:Int)) (Lf:=qbj xs v) (pf:=fun _ x=>some (decide (v=x))) (fun _ _=>.done)
  (fun n=>by simp only [qbj,qj (je _),cond_false])
  (fun n j x hx=>by
   have hj:=(List.getElem?_eq_some_iff.1 hx).1
   simp only [qbj,qi hj,cond_true,qz hx,jd,qfK,wS j])
  (fun n=>by unfold qdW;congr 1;funext o;cases o<;>rfl)
theorem qnt {xs:List ByteArray} {v:ByteArray} (hl:xs.length≤1048576):Ev (fun n=>qcR n xs v) (xs.any fun x=>decide (v=x)):=by
 unfold qcR
 exact Ev.bind (qpB hl) (Ev.now (by rw [qkO]))
theorem qhh {xs:List ByteArray} (h:okL okS xs):Ev (fun n=>qcW n xs) (namesB xs):=by
 have hl:=h.len
 have hL1:Ev (fun n=>qda xs n 0) (bif namesB xs then .nxt (xs.length:Int) else .ret false):=by
  refine qde ?_ (fun j hj X hX=>Ev.succ ?_)
  ·exact Ev.succ (by simp only [qda,qj (je _),cond_false];exact .done)
  ·have hs:subS xs 0 (j:Int)=some (xs.take j):=by
    unfold subS
    rw [if_pos ⟨by omega,by omega,by omega⟩]
    simp
   simp only [qda,qi hj,cond_true,qmP hj,jd,hs,qog (show okS (strAt xs j) by rw [qld hj];exact h.at hj),wS j]
   cases nameB (strAt xs j)
   ·exact .done
   ·refine Ev.ff rfl (Ev.bind (qnt (by simp;omega)) ?_)
    have:((xs.take j).any fun x=>decide (strAt xs j=x)) = !allN (neB xs j) j:=by
     rw [qpF (d:=ByteArray.empty)]
     congr 1
     rw [List.length_take,Nat.min_eq_left (by omega)]
     refine qf0 (fun i hi=>?_)
     unfold neB strAt
     congr 1
     have:(xs.take j).getD i ByteArray.empty=xs.getD i ByteArray.empty:=by simp [jJ,hi]
     rw [this]
     exact decide_eq_decide.2 eq_comm
    rw [this]
    cases allN (neB xs j) j
    ·exact .done
    ·exact hX
 unfold qcW
 refine Ev.bind hL1 ?_
 cases namesB xs<;>exact .done
end Go.Fw


namespace Go.Fw
open Go
set_option maxRecDepth 100000
theorem qnU {n:Nat} {x lo hi:Int}:qfw n x lo hi=some (!inI x lo hi):=by simp only [qfw,qcq,jd]
theorem qfv {xs:List Int} {lo hi:Int} (hl:xs.length≤1048576):Ev (fun n=>qbO n xs lo hi) (xs.all fun x=>inI x lo hi):=by
 have h1:Ev (fun n=>qaq n xs lo hi) (ixL (fun x=>!inI x lo hi) xs) :=
  qfF (fin:=(xs.length:Int)) (Lf:=qL xs lo hi) (pf:=fun _ x=>some (!inI x lo hi)) (fun _ _=>.done)
   (fun n=>by simp only [qL,qj (je _),cond_false])
   (fun n j x hx=>by
    have hj:=(List.getElem?_eq_some_iff.1 hx).1
    simp only [qL,qi hj,cond_true,qz hx,jd,qnU,wS j])
   (fun n=>by unfold qaq;congr 1;funext o;cases o<;>rfl)
 unfold qbO qaZ
 refine Ev.bind (Ev.bind h1 (Ev.now rfl)) (Ev.now ?_)
 rw [qkO,qmQ]
def stepB (xs:List Int) (j:Nat):Bool:=decide (j=0) || decide (at0 xs (j-1)<at0 xs j)
def incB (xs:List Int):Bool:=allN (stepB xs) xs.length
theorem qms {xs:List Int} (hl:xs.length≤1048576):Ev (fun n=>qeY n xs) (incB xs):=by
 have hL:Ev (fun n=>qaU xs n 1) (bif incB xs then .nxt (max 1 xs.length:Int) else .ret false):=by
  by_cases h0:xs.length=0
  ·have hb:incB xs=true:=by unfold incB;rw [h0];rfl
   rw [hb]
   refine Ev.succ ?_
   have:decide ((1:Int)<(xs.length:Int))=false:=by rw [h0];decide
   simp only [qaU,this,cond_false]
   exact Ev.now (by rw [h0];rfl)
  ·have:=qq4 (Lf:=qaU xs) (len:=xs.length) (i0:=1) (f:=stepB xs) (bad:=false) (fin:=.nxt (max 1 xs.length:Int)) (by omega)
    (Ev.succ (by
     simp only [qaU,qj (je _),cond_false]
     exact Ev.now (by congr 2;omega)))
    (fun j h1 hj X hX=>Ev.succ (by
     simp only [qaU,qi hj,cond_true,wS j,show (j:Int)-1=((j-1:Nat):Int) by omega,qZ (show -9223372036854775808≤((j-1:Nat):Int) by omega) (by omega),qbQ (show j-1<xs.length by omega),qbQ hj,jd]
     unfold stepB
     by_cases hc:at0 xs (j-1)<at0 xs j
     ·have e1:decide (at0 xs (j-1) ≥ at0 xs j)=false:=by simp;omega
      rw [e1];simp only [hc,decide_true,Bool.or_true,cond_true,cond_false];exact hX
     ·have e1:decide (at0 xs (j-1) ≥ at0 xs j)=true:=by simp;omega
      have e2:decide (j=0)=false:=by simp;omega
      rw [e1,e2];simp only [hc,decide_false,Bool.or_self,cond_true,cond_false];exact .done))
   have e:allN (fun j=>stepB xs (1+j)) (xs.length-1)=incB xs:=by
    unfold incB
    rw [jh,qap,qap]
    constructor
    ·intro h j hj
     cases j with
     | zero=>rfl
     | succ j=>have:=h j (by omega);rwa [Nat.add_comm] at this
    ·intro h j hj
     exact h (1+j) (by omega)
   rw [e] at this
   exact this
 unfold qeY
 refine Ev.bind hL ?_
 cases incB xs<;>exact .done
def lenB {α:Type} (xs:List α) (lo hi:Nat):Bool:=decide (lo≤xs.length)&&decide (xs.length≤hi)
theorem qoY {α:Type} {xs:List α} {lo hi:Nat}:inI (xs.length:Int) (lo:Int) (hi:Int)=lenB xs lo hi:=by
 unfold inI lenB;rw [jh];simp
def axisB (xs:List Int):Bool:=lenB xs 1 4&&((xs.all fun x=>inI x 0 100000)&&incB xs)
theorem qob {xs:List Int} (hl:xs.length≤1048576):Ev (fun n=>qhc n xs) (axisB xs):=by
 simp only [qhc,qaR,jd,qcq,show inI (xs.length:Int) 1 4=lenB xs 1 4 from qoY (lo:=1) (hi:=4)]
 unfold axisB
 cases lenB xs 1 4
 ·exact .done
 ·refine Ev.tt rfl (Ev.bind (qfv hl) ?_)
  cases (xs.all fun x=>inI x 0 100000)
  ·exact .done
  ·exact Ev.tt rfl (Ev.bind (qms hl) .done)
theorem qm8 {xs:List Int} (hl:xs.length≤1048576):Ev (fun n=>qgl n xs) (axisB xs):=by
 have hL:Ev (fun n=>qcy xs n 0) (bif allN (fun j=>inI (at0 xs j) 0 100000&&stepB xs j) xs.length then .nxt (xs.length:Int) else .ret false):=by
  refine qde ?_ (fun j hj X hX=>Ev.succ ?_)
  ·exact Ev.succ (by simp only [qcy,qj (je _),cond_false];exact .done)
  ·simp only [qcy,qi hj,cond_true,qbQ hj,jd,qef,wS j]
   cases inI (at0 xs j) 0 100000
   ·exact .done
   ·simp only [Bool.not_true,cond_false,jA]
    unfold stepB
    by_cases h0:j=0
    ·subst h0
     exact Ev.ff (by decide) hX
    ·simp only [show (j:Int)-1=((j-1:Nat):Int) by omega,qZ (show -9223372036854775808≤((j-1:Nat):Int) by omega) (by omega),qbQ (show j-1<xs.length by omega),jd]
     have e2:decide (j=0)=false:=by simp;omega
     have e3:decide ((j:Int) > 0)=true:=by simp;omega
     rw [e2,e3]
     simp only [cond_true,Bool.false_or]
     by_cases hc:at0 xs (j-1)<at0 xs j
     ·have e1:decide (at0 xs (j-1) ≥ at0 xs j)=false:=by simp;omega
      rw [e1];simp only [hc,decide_true,cond_true,cond_false];exact hX
     ·have e1:decide (at0 xs (j-1) ≥ at0 xs j)=true:=by simp;omega
      rw [e1];simp only [hc,decide_false,cond_true,cond_false];exact .done
 have e:axisB xs=(allN (fun j=>inI (at0 xs j) 0 100000&&stepB xs j) xs.length&&lenB xs 1 4):=by
  unfold axisB incB
  rw [qjU,qhi (d:=0),Bool.and_comm]
  rfl
 rw [e]
 unfold qgl
 refine Ev.bind hL ?_
 cases allN (fun j=>inI (at0 xs j) 0 100000&&stepB xs j) xs.length
 ·exact .done
 ·simp only [cond_true,qjO,qk9,jA]
  exact Ev.now (by congr 1;unfold lenB;rw [jh];simp;omega)
def tableB (t:qq):Bool:=axisB t.Bf&&(axisB t.Be&&(decide (t.Av.length=t.Bf.length*t.Be.length)&&(t.Av.all fun x=>inI x (-1000000) 1000000)))
theorem qre {a b:Nat} (ha:a≤1048576) (hb:b≤1048576):W64 ((a:Int)*(b:Int))=((a*b:Nat):Int):=by
 have h:a*b≤1048576*1048576:=Nat.mul_le_mul ha hb
 have e:(a:Int)*(b:Int)=((a*b:Nat):Int):=by simp
 rw [e]
 exact qZ (by omega) (by omega)
theorem qqN {t:qq} (h:qgr t):Ev (fun n=>qhQ n t) (tableB t):=by
 unfold qhQ tableB
 refine Ev.bind (qob h.Bf.len) ?_
 cases axisB t.Bf
 ·exact .done
 ·refine Ev.tt rfl (Ev.bind (qob h.Be.len) ?_)
  cases axisB t.Be
  ·exact .done
  ·rw [qre h.Bf.len h.Be.len]
   have e:(((t.Av.length:Nat):Int)==((t.Bf.length*t.Be.length:Nat):Int))=decide (t.Av.length=t.Bf.length*t.Be.length):=by rw [jh];simp;omega
   rw [e]
   cases decide (t.Av.length=t.Bf.length*t.Be.length)
   ·exact .done
   ·exact Ev.tt rfl (Ev.tt rfl (Ev.bind (qfv h.Av.len) .done))
theorem qpr {t:qq} (h:qgr t):Ev (fun n=>qhN n t) (tableB t):=by
 have hl:=h.Av.len
 have hL:Ev (fun n=>qdu t n 0) (bif (t.Av.all fun x=>inI x (-1000000) 1000000) then .nxt (t.Av.length:Int) else .ret false) :=
  qlm (fun n=>by simp only [qdu,qj (je _),cond_false]) (fun j hj X hX=>by
   simp only [qdu,qi hj,cond_true,qf6 hj,jd,qef,wS j]
   cases inI t.Av[j] (-1000000) 1000000
   ·exact .done
   ·exact hX)
 unfold qhN tableB
 refine Ev.bind (b:=!(axisB t.Bf&&(axisB t.Be&&decide (t.Av.length=t.Bf.length*t.Be.length)))) ?_ ?_
 ·refine Ev.bind (qm8 h.Bf.len) ?_
  cases axisB t.Bf
  ·exact .done
  ·refine Ev.ff rfl (Ev.bind (qm8 h.Be.len) ?_)
   cases axisB t.Be
   ·exact .done
   ·refine Ev.ff rfl (Ev.now ?_)
    rw [qre h.Bf.len h.Be.len]
    congr 1
    rw [jh];simp;omega
 ·cases axisB t.Bf
  ·exact .done
  ·cases axisB t.Be
   ·exact .done
   ·cases decide (t.Av.length=t.Bf.length*t.Be.length)
    ·exact .done
    ·refine Ev.ff rfl (Ev.bind hL ?_)
     cases (t.Av.all fun x=>inI x (-1000000) 1000000)<;>exact .done
end Go.Fw


namespace Go.Fw
open Go
set_option maxRecDepth 100000
instance:Inhabited qO:=⟨⟨ByteArray.empty,0,0,false⟩⟩
instance:Inhabited qq:=⟨⟨[],[],[]⟩⟩
instance:Inhabited qF:=⟨⟨0,0,0,0,[],[]⟩⟩
instance:Inhabited qp:=⟨⟨ByteArray.empty,0,[],[],[],0,0⟩⟩
instance:Inhabited qd:=⟨⟨ByteArray.empty,0,[]⟩⟩
instance:Inhabited qB:=⟨⟨ByteArray.empty,0,0⟩⟩
instance:Inhabited qw:=⟨⟨[],[],[],[]⟩⟩
theorem lastE {j m:Nat} (h:j<m) (hm:m≤1048576):((j:Int)==W64 ((m:Int)-1))=decide (j+1=m):=by
 rcases qti h with h|h
 ·exact h
 ·omega
theorem qh0 {α:Type} [Inhabited α] {xs:List α} {g:α→ByteArray} {j:Nat} (h:j<xs.length):strAt (xs.map g) j=g (gt xs j):=by
 rw [qld (by simpa using h),qjD h];simp
theorem qkp {α:Type} {xs:List α} {g:α→ByteArray} {ok:α→Prop} (h:okL ok xs) (hg:∀ x,ok x→okS (g x)):okL okS (xs.map g) :=
 ⟨by rw [jE];exact h.1,fun y hy=>by
  obtain ⟨x,hx,rfl⟩:=List.mem_map.1 hy
  exact hg x (h.2 x hx)⟩
theorem qi1 {α β:Type} {xs:List α} {g:α→β} {j:Nat} (h:j<xs.length) (hl:xs.length≤1048576) {y:β}:appS ((xs.take j).map g) [y]=some ((xs.take j).map g++[y]) :=
 qdV (by simp;omega)
def pinB (ps:List qO) (j:Nat):Bool :=
 bif decide (j+1=ps.length) then ((gt ps j).Bm==2)&&(((gt ps j).Bk==0)&&!(gt ps j).Bh) else ((gt ps j).Bm==1)&&inI (gt ps j).Bk 0 500
def pinsB (ps:List qO):Bool:=allN (pinB ps) ps.length&&(lenB ps 2 5&&namesB (ps.map qO.Ar))
def clkN (ps:List qO) (j:Nat):Nat:=cntP (fun i=>(gt ps i).Bh) j
theorem qqk {ps:List qO} (h:okL qj9 ps):Ev (fun n=>qhP n ps) (pinsB ps):=by
 have hl:=h.len
 have hL:Ev (fun n=>qbW ps n ([]:List ByteArray) 0) (bif allN (pinB ps) ps.length then .nxt (ps.map qO.Ar,(ps.length:Int)) else .ret false):=by
  refine loopN (Lf:=qbW ps) (S:=fun j=>(ps.take j).map qO.Ar) (pinB ps) (fun n=>?_) (fun j hj hp X hX=>?_)
  ·simp only [qbW,qj (je _),cond_false,jO]
  ·simp only [qbW,qi hj,cond_true,qN hj,jd,qi1 hj hl,qem (g:=qO.Ar) hj,lastE hj hl,bne,qbb,qcq,wS j]
   generalize hc:pinB ps j=c at hX ⊢
   unfold pinB at hc
   cases hd:decide (j+1=ps.length)
   ·rw [hd] at hc
    simp only [cond_false] at hc ⊢
    subst hc
    exact Ev.okP (fun h1=>Ev.okP1 (fun h2=>hX (by rw [h1,h2];rfl)))
   ·rw [hd] at hc
    simp only [cond_true] at hc ⊢
    subst hc
    refine Ev.okP (fun h1=>Ev.okP (fun h2=>Ev.chkP1 (fun h3=>hX (by rw [h1,h2,h3];rfl))))
 unfold qhP pinsB
 refine Ev.bind hL ?_
 cases allN (pinB ps) ps.length
 ·exact .done
 ·simp only [cond_true,qbC,qcq,jd,show inI (ps.length:Int) 2 5=lenB ps 2 5 from qoY (lo:=2) (hi:=5),jA]
  exact Ev.andP (fun _=>Ev.last (qhh (qkp h (fun x hx=>hx.Ar))))
def pinS (ps:List qO) (j:Nat):Bool:=allN (neB (ps.map qO.Ar) j) j&&((nameB (gt ps j).Ar&&inI (gt ps j).Bk 0 500)&&(bif decide (j+1=ps.length) then ((gt ps j).Bm==2)&&(((gt ps j).Bk==0)&&!(gt ps j).Bh) else ((gt ps j).Bm==1)))
theorem qtC {ps:List qO}:(lenB ps 2 5&&allN (pinS ps) ps.length)=pinsB ps:=by
 have e:namesB (ps.map qO.Ar)=allN (fun j=>nameB (gt ps j).Ar&&allN (neB (ps.map qO.Ar) j) j) ps.length:=by
  unfold namesB
  rw [jE]
  exact qf0 (fun j hj=>by rw [qh0 hj])
 unfold pinsB
 rw [e,←Bool.and_assoc,Bool.and_comm (allN (pinB ps) ps.length),Bool.and_assoc,←qjU]
 congr 1
 refine qf0 (fun j hj=>?_)
 unfold pinS pinB
 cases hd:decide (j+1=ps.length)
 ·simp only [cond_false]
  cases allN (neB (ps.map qO.Ar) j) j<;>cases nameB (gt ps j).Ar<;>cases inI (gt ps j).Bk 0 500<;>cases ((gt ps j).Bm==1)<;>rfl
 ·simp only [cond_true]
  cases hcap:((gt ps j).Bk==0)
  ·simp
  ·have:inI (gt ps j).Bk 0 500=true:=by rw [beq_iff_eq] at hcap;rw [hcap];rfl
   rw [this]
   cases allN (neB (ps.map qO.Ar) j) j<;>cases nameB (gt ps j).Ar<;>cases ((gt ps j).Bm==2)<;>cases (gt ps j).Bh<;>rfl
theorem qqR {c:qp} (h:okL qj9 c.Am):Ev (fun n=>qhX n c) (bif pinsB c.Am then (((clkN c.Am c.Am.length:Nat):Int),true) else (0,false)):=by
 have hl:=h.len
 have hL2:∀ j,j<c.Am.length→Ev (fun n=>qdy c (j:Int) (gt c.Am j) n 0) (bif allN (neB (c.Am.map qO.Ar) j) j then .nxt (j:Int) else .ret (0,false)):=by
  intro j hj
  refine qde ?_ (fun i hi X hX=>Ev.succ ?_)
  ·exact Ev.succ (by simp only [qdy,qj (je _),cond_false];exact .done)
  ·simp only [qdy,qi hi,cond_true,qN (show i<c.Am.length by omega),jd,qfK,wS i]
   unfold neB
   rw [qh0 (g:=qO.Ar) (show i<c.Am.length by omega),qh0 (g:=qO.Ar) hj]
   exact Ev.chkP1 (fun _=>hX)
 have hL1:Ev (fun n=>qb0 c n 0 0) (bif allN (pinS c.Am) c.Am.length then .nxt (((clkN c.Am c.Am.length:Nat):Int),(c.Am.length:Int)) else .ret (0,false)):=by
  refine loopN (Lf:=qb0 c) (S:=fun j=>((clkN c.Am j:Nat):Int)) (pinS c.Am) (fun n=>?_) (fun j hj hp X hX=>?_)
  ·simp only [qb0,qj (je _),cond_false]
  ·have hn:clkN c.Am j≤j:=qe0
   have ejl:((j:Int)==W64 ((c.Am.length:Int)-1))=decide (j+1=c.Am.length):=lastE hj hl
   have elt:decide ((j:Int)<W64 ((c.Am.length:Int)-1)) = !decide (j+1=c.Am.length):=by
    rw [qZ (by omega) (by omega),jh];simp;omega
   simp only [qb0,qi hj,cond_true,qN hj,jd,wS j,qcL (show clkN c.Am j<9223372036854775807 by omega),ejl,elt,qef]
   unfold pinS
   refine Ev.bind (hL2 j hj) ?_
   cases ha:allN (neB (c.Am.map qO.Ar) j) j
   ·exact .done
   ·simp only [cond_true,jA]
    refine Ev.chkT ?_ (fun h1=>?_)
    ·exact Ev.or (qkY (qjL h hj).Ar) (fun _=>.done)
    ·refine Ev.chkT1 ?_ (fun h2=>?_)
     ·cases decide (j+1=c.Am.length)
      ·exact .done
      ·simp only [cond_true,Bool.not_true,cond_false,bne,qbb]
       cases ((gt c.Am j).Bm==2)<;>cases ((gt c.Am j).Bk==0)<;>cases (gt c.Am j).Bh<;>exact .done
     ·have hX:=hX (by unfold pinS;rw [ha,h1,h2];rfl)
      have hck:clkN c.Am (j+1)=clkN c.Am j+(bif (gt c.Am j).Bh then 1 else 0):=rfl
      rw [hck] at hX
      cases hc:(gt c.Am j).Bh
      ·rw [hc] at hX;exact Ev.ff rfl hX
      ·rw [hc] at hX;exact Ev.tt rfl hX
 rw [←qtC]
 unfold qhX
 refine Ev.guard ?_ (fun h1=>?_)
 ·unfold lenB
  have e1:decide ((c.Am.length:Int)<2) = !decide (2≤c.Am.length):=by rw [jh];simp;omega
  have e2:decide ((c.Am.length:Int) > 5) = !decide (c.Am.length≤5):=by rw [jh];simp;omega
  rw [e1,e2]
  cases decide (2≤c.Am.length)<;>cases decide (c.Am.length≤5)<;>exact .done
 ·refine Ev.bind hL1 ?_
  cases allN (pinS c.Am) c.Am.length<;>exact .done
def mnL (xs:List Int):Int:=(xs.drop 1).foldl (fun m y=>if y<m then y else m) (at0 xs 0)
def mxL (xs:List Int):Int:=(xs.drop 1).foldl (fun m y=>if y > m then y else m) (at0 xs 0)
theorem qnI {t:qq} (h:tableB t=true):1≤t.Av.length:=by
 unfold tableB axisB lenB at h
 simp only [jf,decide_eq_true_eq] at h
 obtain ⟨⟨⟨h1,_⟩,_⟩,⟨⟨h2,_⟩,_⟩,h3,_⟩:=h
 rw [h3]
 exact Nat.mul_pos h1 h2
theorem qtL {xs:List Int} (h1:1≤xs.length) (hl:xs.length≤1048576):Ev (fun n=>qft n xs) (mnL xs):=by
 have hL:=(qoq (Lf:=fun n t j=>qbS xs n t j) (xs:=xs) (step:=fun (m y:Int)=>if y<m then y else m) (fin:=fun t=>(t,(xs.length:Int))) 1 (at0 xs 0) (fun _ _=>True) h1 trivial (fun _ _ _ _=>trivial)
  (fun n t=>by simp only [qbS,qj (je _),cond_false])
  (fun j t hj _ X hX=>by simpa only [qbS,qi hj,cond_true,qf6 hj,jd,wS j] using hX)).1
 unfold qft
 rw [show decide ((xs.length:Int)<1)=false by simp;omega,show idx xs (0:Int)=some (at0 xs 0) from qbQ (j:=0) (by omega)]
 simp only [cond_false,jd]
 exact Ev.bind hL .done
theorem qqs {t:qq} (h:qgr t):Ev (fun n=>qfA n t) (bif tableB t then (⟨mnL t.Av,mxL t.Av⟩,0) else (⟨0,0⟩,1)):=by
 unfold qfA
 refine Ev.chk1 (qpr h) (fun hb=>?_)
 have h1:=qnI hb
 have hl:=h.Av.len
 have hL:=(qoq (Lf:=fun n (t':Int × Int) j=>qbU t n t'.1 t'.2 j) (xs:=t.Av) (step:=fun (m:Int × Int) y=>(if y<m.1 then y else m.1,if y > m.2 then y else m.2)) (fin:=fun t'=>(t'.1,t'.2,(t.Av.length:Int))) 1 (at0 t.Av 0,at0 t.Av 0) (fun _ _=>True) h1 trivial (fun _ _ _ _=>trivial)
  (fun n t=>by simp only [qbU,qj (je _),cond_false])
  (fun j t hj _ X hX=>by simpa only [qbU,qi hj,cond_true,qf6 hj,jd,wS j] using hX)).1
 have hf:∀ (ys:List Int) (a b:Int),ys.foldl (fun (m:Int × Int) y=>(if y<m.1 then y else m.1,if y > m.2 then y else m.2)) (a,b)=(ys.foldl (fun m y=>if y<m then y else m) a,ys.foldl (fun m y=>if y > m then y else m) b):=by
  intro ys
  induction ys with
  | nil=>intro a b;rfl
  | cons y ys ih=>intro a b;simp only [List.foldl_cons,ih]
 rw [hf] at hL
 rw [show idx t.Av (0:Int)=some (at0 t.Av 0) from qbQ (j:=0) (by omega)]
 simp only [jd]
 exact Ev.bind hL .done
def tabB (pos:Bool) (t:qq):Bool:=tableB t&&(!pos || decide (0≤mnL t.Av))
def tablesB (ts:List qq) (pos:Bool):Bool:=decide (ts.length=2)&&ts.all (tabB pos)
theorem qjg {ts:List qq} {pos:Bool} (h:okL qgr ts):Ev (fun n=>qd5 n ts pos) (tablesB ts pos):=by
 have hl:=h.len
 have h1:Ev (fun n=>qae n ts pos) (ixL (fun x=>!tabB pos x) ts) :=
  qfF (fin:=(ts.length:Int)) (Lf:=qE ts pos) (pf:=fun n x=>qfo n x pos) (fun x hx=>by
    unfold qfo tabB
    refine Ev.or (qqN (h.2 x hx)) (fun hb=>?_)
    cases pos
    ·exact .done
    ·refine Ev.tt rfl (Ev.bind (qtL (qnI hb) (h.2 x hx).Av.len) (Ev.now ?_))
     congr 1
     rw [jh];simp)
   (fun n=>by simp only [qE,qj (je _),cond_false])
   (fun n j x hx=>by
    have hj:=(List.getElem?_eq_some_iff.1 hx).1
    simp only [qE,qi hj,cond_true,qz hx,jd,wS j])
   (fun n=>by unfold qae;congr 1;funext o;cases o<;>rfl)
 unfold qd5 qaz tablesB
 rw [show ((ts.length:Int)==2)=decide (ts.length=2) by rw [jh];simp;omega]
 refine Ev.andP (fun _=>Ev.bind (Ev.bind h1 (Ev.now rfl)) (Ev.now ?_))
 rw [qkO,qmQ]
theorem qgw {ts:List qq} {pos:Bool} (h:okL qgr ts):Ev (fun n=>qci n ts pos) (tablesB ts pos):=by
 unfold qci tablesB
 rw [show ((ts.length:Int) != 2) = !decide (ts.length=2) by rw [jh];simp;omega]
 simp only [qbb]
 refine Ev.andP (fun h2=>?_)
 have h2:ts.length=2:=by simpa using h2
 have hL:Ev (fun n=>qbJ ts pos n 0) (bif allN (fun j=>tabB pos (gt ts j)) ts.length then .nxt (2:Int) else .ret false):=by
  refine qde (len:=ts.length) ?_ (fun j hj X hX=>Ev.succ ?_)
  ·rw [h2];exact Ev.succ (by simp only [qbJ];exact .done)
  ·simp only [qbJ,show decide ((j:Int)<2)=true by simp;omega,cond_true,qN hj,jd,wS j]
   refine Ev.bind (qqs (qjL h hj)) ?_
   unfold tabB
   cases tableB (gt ts j)
   ·exact .done
   ·simp only [cond_true,jA]
    refine Ev.ff rfl ?_
    cases pos
    ·exact hX
    ·refine Ev.tt rfl ?_
     rw [show decide (mnL (gt ts j).Av<0) = !decide (0≤mnL (gt ts j).Av) by rw [jh];simp]
     simp only [qbb]
     exact Ev.okP1 (fun _=>hX)
 rw [qhz]
 refine Ev.bind hL ?_
 cases allN (fun j=>tabB pos (gt ts j)) ts.length<;>exact .done
end Go.Fw


namespace Go.Fw
open Go
set_option maxRecDepth 100000
theorem qix {α:Type} [Inhabited α] {xs:List α} {x:Int} (h0:0≤x) (h1:x<xs.length):idx xs x=some (gt xs x.toNat):=by
  have:=qN (xs:=xs) (j:=x.toNat) (by omega)
  rwa [←qj4 h0] at this
theorem qol {q:Nat→Bool} {m n:Nat} (h:m≤n):cntP q m≤cntP q n:=by
  induction n with
  | zero =>
    obtain rfl:m=0:=by omega
    exact je _
  | succ n ih =>
    rcases Nat.lt_or_eq_of_le h with h|rfl
    · exact jQ (ih (by omega)) (Nat.le_add_right _ _)
    · exact je _
theorem qiG {m k:Nat}:decide ((m:Int)≤(k:Int))=decide (m≤k):=by rw [jh];simp
theorem qpQ {q:Nat→Bool} {n i j:Nat} (hi:i<j) (hj:j<n) (h1:q i=true) (h2:q j=true):2≤cntP q n:=by
  have e1:cntP q (i+1)=cntP q i+1:=by rw [cntP,h1];rfl
  have e2:cntP q (j+1)=cntP q j+1:=by rw [cntP,h2];rfl
  have m1:=qol (q:=q) (show i+1≤j by omega)
  have m2:=qol (q:=q) (show j+1≤n by omega)
  omega
theorem qpX {q:Nat→Bool} {n i j:Nat} (hn:cntP q n≤1) (hi:i<n) (hj:j<n) (h1:q i=true) (h2:q j=true):i=j:=by
  rcases Nat.lt_trichotomy i j with h|h|h
  · have:=qpQ h hj h1 h2;omega
  · exact h
  · have:=qpQ h hi h2 h1;omega
def clkIx (ps:List qO):Int:=ixL (fun p=>p.Bh) ps
def clkAt (ps:List qO) (x:Int):Bool:=(gt ps x.toNat).Bh
theorem qsU {c:qp} (hl:c.Am.length≤1048576):Ev (fun n=>qfX n c) (clkIx c.Am):=by
  unfold qfX
  refine Ev.bind (b:=clkIx c.Am) ?_ .done
  exact qfF (fin:=(c.Am.length:Int)) (Lf:=qG c.Am) (pf:=fun n x=>qgy n x) (fun _ _=>.done)
    (fun n=>by simp only [qG,qj (je _),cond_false])
    (fun n j x hx=>by
      have hj:=(List.getElem?_eq_some_iff.1 hx).1
      simp only [qG,qi hj,cond_true,qz hx,jd,wS j])
    (fun n=>by unfold qaT;congr 1;funext o;cases o<;>rfl)
def arcI (ps:List qO) (a:qF):Bool :=
  bif (a.Ay==4) || (a.Ay==5) then
    (a.Bi==0)&&(((a.Az.length:Int)==0)&&(tablesB a.Bb false&&((a.Bd==clkIx ps)&&(decide (a.Bd ≥ 0)&&(inI a.To 0 (ps.length-2)&&!(a.To==a.Bd))))))
  else
    (tablesB a.Bb true&&(tablesB a.Az true&&((a.To==(ps.length:Int)-1)&&inI a.Bd 0 (ps.length-2)))) &&
      (bif a.Ay==1 then !clkAt ps a.Bd&&inI a.Bi 1 3 else (bif (a.Ay==2) || (a.Ay==3) then clkAt ps a.Bd&&(a.Bi==0) else false))
def arcS (ps:List qO) (a:qF):Bool :=
  (inI a.Bd 0 (ps.length-2)&&inI a.To 0 (ps.length-1)) &&
    (bif a.Ay==1 then !clkAt ps a.Bd&&((a.To==(ps.length:Int)-1)&&(inI a.Bi 1 3&&(tablesB a.Bb true&&tablesB a.Az true)))
     else (bif (a.Ay==2) || (a.Ay==3) then clkAt ps a.Bd&&((a.To==(ps.length:Int)-1)&&((a.Bi==0)&&(tablesB a.Bb true&&tablesB a.Az true)))
     else (bif (a.Ay==4) || (a.Ay==5) then clkAt ps a.Bd&&(decide (a.To<(ps.length:Int)-1)&&(!clkAt ps a.To&&((a.Bi==0)&&(tablesB a.Bb false&&((a.Az.length:Int)==0))))) else false)))
theorem ql9 {c d:Bool}:(bif c then some c else some d)=some (c || d):=by cases c<;>rfl
theorem qp2 {c d:Bool}:(bif c then some true else some d)=some (c || d):=by cases c<;>rfl
theorem qqm {n:Nat} {k:Int}:qhG n k=some ((k==4) || (k==5)):=by simp only [qhG,qp2]
theorem qsD {c:qp} {a:qF} (h:okL qj9 c.Am) (ha:qk0 a) (hm:2≤c.Am.length):Ev (fun n=>qfV n c a) (arcI c.Am a):=by
  have hl:=h.len
  have e1:W64 ((c.Am.length:Int)-1)=(c.Am.length:Int)-1:=qdk (by omega)
  have e2:W64 ((c.Am.length:Int)-1-1)=(c.Am.length:Int)-2:=by rw [qZ (by omega) (by omega)];omega
  simp only [qfV,qqm,jd,qeW,qc8,qbC,e1,e2,qcq,ql9,bne]
  unfold arcI
  refine Ev.iff (fun _=>Ev.last ?_) (fun _=>Ev.guardB ?_ (fun hb=>?_))
  · exact Ev.andP fun _=>Ev.andP fun _=>Ev.and (qjg ha.Bb) fun _=>Ev.bind (qsU hl) (Ev.andP fun _=>Ev.andP fun _=>Ev.andP fun _=>.done)
  · refine Ev.or (qjg ha.Bb) fun _=>Ev.or (qjg ha.Az) fun _=>?_
    simp only [qbb]
    exact Ev.orBP fun _=>.done
  · have hf:0≤a.Bd∧a.Bd≤(c.Am.length:Int)-2:=by
      simp only [jf,qbG] at hb
      exact hb.2.2.2
    simp only [qix hf.1 (show a.Bd<(c.Am.length:Int) by omega),jd]
    exact Ev.iff (fun _=>Ev.andP fun _=>.done) (fun _=>Ev.iff (fun _=>Ev.andP fun _=>.done) (fun _=>.done))
theorem qrP {c:qp} {a:qF} (h:okL qj9 c.Am) (ha:qk0 a) (hm:2≤c.Am.length):Ev (fun n=>qiO n c a) (arcS c.Am a):=by
  have hl:=h.len
  have e1:W64 ((c.Am.length:Int)-1)=(c.Am.length:Int)-1:=qdk (by omega)
  have e2:W64 ((c.Am.length:Int)-1-1)=(c.Am.length:Int)-2:=by rw [qZ (by omega) (by omega)];omega
  simp only [qiO,jd,e1,e2,qef,ql9]
  unfold arcS
  refine Ev.guardB ?_ (fun hb=>?_)
  · simp only [qbb]
    exact Ev.orBP fun _=>.done
  · have hf:(0≤a.Bd∧a.Bd≤(c.Am.length:Int)-2)∧(0≤a.To∧a.To≤(c.Am.length:Int)-1):=by
      simp only [jf,qbG] at hb
      exact hb
    simp only [qix hf.1.1 (show a.Bd<(c.Am.length:Int) by omega),qix hf.2.1 (show a.To<(c.Am.length:Int) by omega),jd]
    refine Ev.iff (fun _=>?_) (fun _=>Ev.iff (fun _=>?_) (fun _=>Ev.iff (fun _=>?_) (fun _=>.done)))
    · exact Ev.andP fun _=>Ev.andP fun _=>Ev.andP fun _=>Ev.and (qgw ha.Bb) fun _=>Ev.last (qgw ha.Az)
    · exact Ev.andP fun _=>Ev.andP fun _=>Ev.andP fun _=>Ev.and (qgw ha.Bb) fun _=>Ev.last (qgw ha.Az)
    · exact Ev.andP fun _=>Ev.andP fun _=>Ev.andP fun _=>Ev.andP fun _=>Ev.and (qgw ha.Bb) fun _=>.done
theorem ql0 {ps:List qO} (h1:clkN ps ps.length≤1) {x:Int} (hx:0≤x):clkIx ps=x↔x<ps.length∧clkAt ps x=true:=by
  unfold clkIx ixL
  cases hf:ps.findIdx? (fun p=>p.Bh) with
  | some j =>
    obtain ⟨hj,hp,_⟩:=List.findIdx?_eq_some_iff_getElem.1 hf
    have hpj:(gt ps j).Bh=true:=by rw [qjD hj];exact hp
    constructor
    · intro e
      have e:(j:Int)=x:=e
      subst e
      exact ⟨by omega,by unfold clkAt;rw [jy];exact hpj⟩
    · rintro ⟨hl,hc⟩
      have:=qpX h1 hj (show x.toNat<ps.length by omega) hpj hc
      show (j:Int)=x
      omega
  | none =>
    have hn:=List.findIdx?_eq_none_iff.1 hf
    constructor
    · intro e
      have e:(-1:Int)=x:=e
      omega
    · rintro ⟨hl,hc⟩
      have hxl:x.toNat<ps.length:=by omega
      unfold clkAt at hc
      rw [qjD hxl] at hc
      have:=hn _ (js hxl)
      rw [hc] at this
      exact absurd this (by decide)
theorem qgP {ps:List qO} (h:pinsB ps=true):(2≤ps.length∧ps.length≤5)∧clkAt ps ((ps.length:Int)-1)=false:=by
  unfold pinsB lenB at h
  simp only [jf,decide_eq_true_eq] at h
  refine ⟨h.2.1,?_⟩
  have h1:=qap.1 h.1 (ps.length-1) (by omega)
  unfold pinB at h1
  rw [show decide (ps.length-1+1=ps.length)=true by simp;omega] at h1
  simp only [cond_true,jf,ju] at h1
  unfold clkAt
  rw [show ((ps.length:Int)-1).toNat=ps.length-1 by omega]
  exact h1.2.2
theorem qse {ps:List qO} {a:qF} (h:pinsB ps=true) (h1:clkN ps ps.length≤1):arcI ps a=arcS ps a:=by
  obtain ⟨⟨hm,hm5⟩,hlast⟩:=qgP h
  rw [jh]
  unfold arcI arcS
  cases h45:((a.Ay==4) || (a.Ay==5)) with
  | true =>
    have k1:(a.Ay==1)=false:=by simp at h45 ⊢;omega
    have k23:((a.Ay==2) || (a.Ay==3))=false:=by simp at h45 ⊢;omega
    rw [k1,k23]
    simp only [cond_true,cond_false,jf,qbG,decide_eq_true_eq,beq_iff_eq,ju,beq_eq_false_iff_ne,ne_eq]
    constructor
    · rintro ⟨hs,hsl,hd,hf,hf0,ht,hne⟩
      obtain ⟨hl,hc⟩:=(ql0 h1 hf0).1 hf.symm
      have hfl:a.Bd ≠ (ps.length:Int)-1:=by intro e;rw [e,hlast] at hc;cases hc
      refine ⟨⟨⟨hf0,by omega⟩,⟨ht.1,by omega⟩⟩,hc,by omega,?_,hs,hd,hsl⟩
      cases hct:clkAt ps a.To with
      | false=>rfl
      | true =>
        have:=(ql0 h1 ht.1).2 ⟨by omega,hct⟩
        omega
    · rintro ⟨⟨hf,ht⟩,hc,hlt,hct,hs,hd,hsl⟩
      have:=(ql0 h1 hf.1).2 ⟨by omega,hc⟩
      refine ⟨hs,hsl,hd,this.symm,hf.1,⟨ht.1,by omega⟩,?_⟩
      intro e
      rw [e,hc] at hct
      cases hct
  | false =>
    simp only [cond_false,jf,qbG,beq_iff_eq]
    cases (a.Ay==1)
    · cases ((a.Ay==2) || (a.Ay==3))
      · simp
      · simp only [cond_true,cond_false,jf,beq_iff_eq]
        constructor
        · rintro ⟨⟨h1,h2,h3,h4⟩,h5,h6⟩
          exact ⟨⟨h4,by omega⟩,h5,h3,h6,h1,h2⟩
        · rintro ⟨⟨h4,h7⟩,h5,h3,h6,h1,h2⟩
          exact ⟨⟨h1,h2,h3,h4⟩,h5,h6⟩
    · simp only [cond_true,jf,qbG,ju,beq_iff_eq]
      constructor
      · rintro ⟨⟨h1,h2,h3,h4⟩,h5,h6⟩
        exact ⟨⟨h4,by omega⟩,h5,h3,h6,h1,h2⟩
      · rintro ⟨⟨h4,h7⟩,h5,h3,h6,h1,h2⟩
        exact ⟨⟨h1,h2,h3,h4⟩,h5,h6⟩
theorem qop {ps:List qO} {a:qF} (h:arcS ps a=true):1≤a.Ay∧a.Ay≤5:=by
  unfold arcS at h
  rw [jf] at h
  have h:=h.2
  cases h1:(a.Ay==1)
  · cases h2:((a.Ay==2) || (a.Ay==3))
    · cases h4:((a.Ay==4) || (a.Ay==5))
      · rw [h1,h2,h4] at h;cases h
      · simp at h4;omega
    · simp at h2;omega
  · simp at h1;omega
def sameArc (x y:qF):Bool:=(x.Ay==y.Ay)&&((x.Bd==y.Bd)&&(x.To==y.To))
def newArc (ar:List qF) (j:Nat):Bool:=allN (fun i=>!sameArc (gt ar i) (gt ar j)) j
theorem qqW {c:qp} (h:okL qj9 c.Am) (ha:okL qk0 c.Aj) (hm:2≤c.Am.length):Ev (fun n=>qeV n c) (allN (fun j=>arcI c.Am (gt c.Aj j)&&newArc c.Aj j) c.Aj.length&&decide (c.Aj.length≤8)):=by
  have hl:=ha.len
  have h1:∀ (ar:List qF) (y:qF),ar.length≤1048576→Ev (fun n=>qW n ar y) (ar.any fun x=>sameArc x y):=by
    intro ar y hl
    unfold qW
    refine Ev.bind (b:=ixL (fun x=>sameArc x y) ar) (qfF (fin:=(ar.length:Int)) (Lf:=qC ar y) (pf:=fun n x=>qdU n x y) (fun x _=>?_)
      (fun n=>by simp only [qC,qj (je _),cond_false])
      (fun n j x hx=>by
        have hj:=(List.getElem?_eq_some_iff.1 hx).1
        simp only [qC,qi hj,cond_true,qz hx,jd,wS j])
      (fun n=>by unfold qaD;congr 1;funext o;cases o<;>rfl)) (Ev.now (by rw [qkO]))
    unfold qdU sameArc
    exact Ev.andP fun _=>Ev.andP fun _=>.done
  have hL:Ev (fun n=>qbA c n 0) (bif allN (fun j=>arcI c.Am (gt c.Aj j)&&newArc c.Aj j) c.Aj.length then .nxt (c.Aj.length:Int) else .ret false):=by
    refine qde ?_ (fun j hj X hX=>Ev.succ ?_)
    · exact Ev.succ (by simp only [qbA,qj (je _),cond_false];exact .done)
    · simp only [qbA,qi hj,cond_true,qN hj,jd,qrR (Nat.le_of_lt hj),wS j]
      refine Ev.chk (qsD h (qjL ha hj) hm) fun _=>Ev.chkT1 ?_ (fun _=>hX)
      refine (h1 _ _ (by simp;omega)).cast ?_
      rw [qs5 (Nat.le_of_lt hj)];rfl
  unfold qeV
  refine Ev.bind hL ?_
  cases allN (fun j=>arcI c.Am (gt c.Aj j)&&newArc c.Aj j) c.Aj.length
  · exact .done
  · refine Ev.now ?_
    show some (decide ((c.Aj.length:Int)≤((8:Nat):Int)))=some (true&&decide (c.Aj.length≤8))
    rw [qiG,jA]
def hasB (ar:List qF) (k:Int):Bool:=ar.any fun a=>a.Ay==k
theorem ql2 {c:qp} {k:Int} (hl:c.Aj.length≤1048576):Ev (fun n=>qcc n c k) (hasB c.Aj k):=by
  unfold qcc qaO
  exact Ev.last (Ev.bind (b:=ixL (fun x=>x.Ay==k) c.Aj) (qfF (fin:=(c.Aj.length:Int)) (Lf:=qI c.Aj k) (pf:=fun n x=>qhx n x k) (fun x _=>.done)
      (fun n=>by simp only [qI,qj (je _),cond_false])
      (fun n j x hx=>by
        have hj:=(List.getElem?_eq_some_iff.1 hx).1
        simp only [qI,qi hj,cond_true,qz hx,jd,wS j])
      (fun n=>by unfold qa2;congr 1;funext o;cases o<;>rfl)) (Ev.now (by rw [qkO];rfl)))
def kindN (ar:List qF) (k:Nat) (j:Nat):Nat:=cntP (fun i=>(gt ar i).Ay==(k:Int)) j
theorem qoj {ar:List qF} {k:Nat}:decide (((kindN ar k ar.length:Nat):Int) > 0)=hasB ar k:=by
  rw [show decide (((kindN ar k ar.length:Nat):Int) > 0)=decide (0<kindN ar k ar.length) by simp]
  unfold kindN hasB
  rw [qp0,qsa]
theorem qqA {ar:List qF} {k:Nat}:(((kindN ar k ar.length:Nat):Int)==0) = !hasB ar k:=by
  rw [←qoj,jh];simp
theorem qpE {c:qp} (ha:okL qk0 c.Aj) (hk:∀ j,j<c.Aj.length→1≤(gt c.Aj j).Ay∧(gt c.Aj j).Ay≤5):Ev (fun n=>qg2 n c) (vecC (fun k=>kindN c.Aj k c.Aj.length) 6):=by
  have hl:=ha.len
  have hL:Ev (fun n=>qca c n (vecC (fun _=>0) 6) 0) (vecC (fun k=>kindN c.Aj k c.Aj.length) 6,(c.Aj.length:Int)):=by
    refine loopF (Lf:=qca c) (S:=fun j=>vecC (fun k=>kindN c.Aj k j) 6) (len:=c.Aj.length) (fun n=>?_) (fun j hj X hX=>?_)
    · simp only [qca,qj (je _),cond_false]
    · obtain ⟨k1,k5⟩:=hk j hj
      have ek:(gt c.Aj j).Ay=(((gt c.Aj j).Ay.toNat:Nat):Int):=qj4 (by omega)
      have hc:kindN c.Aj (gt c.Aj j).Ay.toNat j≤j:=qe0
      simp only [qca,qi hj,cond_true,qN hj,jd,wS j]
      rw [ek,qh7 (show (gt c.Aj j).Ay.toNat<6 by omega)]
      simp only [jd]
      rw [qou (c:=fun k=>kindN c.Aj k j) (by show kindN c.Aj _ j<_;omega)]
      have:vecC (fun i=>kindN c.Aj i j+(bif decide ((gt c.Aj j).Ay.toNat=i) then 1 else 0)) 6=vecC (fun k=>kindN c.Aj k (j+1)) 6:=by
        refine qip (fun k _=>?_)
        show _=kindN c.Aj k j+(bif (gt c.Aj j).Ay==(k:Int) then 1 else 0)
        congr 2
        rw [jh];simp;omega
      rw [this]
      exact hX
  unfold qg2
  rw [show mkS 6 (0:Int)=some (vecC (fun _=>0) 6) from qko (m:=6) (by omega)]
  simp only [jd]
  exact Ev.bind hL .done
def kindB (c:qp):Bool :=
  bif c.Ay==1 then (((clkN c.Am c.Am.length:Nat):Int)==0)&&(((c.Bc.length:Int)==((2 ^ (c.Am.length-1):Nat):Int))&&(c.Bc.all fun x=>inI x 0 1))
  else bif c.Ay==2 then (((clkN c.Am c.Am.length:Nat):Int)==1)&&(((c.Bc.length:Int)==0)&&(!hasB c.Aj 1&&!(hasB c.Aj 2==hasB c.Aj 3)))
  else bif c.Ay==3 then (((clkN c.Am c.Am.length:Nat):Int)==1)&&(((c.Bc.length:Int)==0)&&(hasB c.Aj 1&&(hasB c.Aj 2&&!hasB c.Aj 3)))
  else false
theorem qoC {c:qp} (h:kindB c=true):clkN c.Am c.Am.length≤1:=by
  unfold kindB at h
  cases h1:(c.Ay==1)
  · cases h2:(c.Ay==2)
    · cases h3:(c.Ay==3)
      · rw [h1,h2,h3] at h;cases h
      · rw [h1,h2,h3] at h
        simp only [cond_true,cond_false,jf,beq_iff_eq] at h
        omega
    · rw [h1,h2] at h
      simp only [cond_true,cond_false,jf,beq_iff_eq] at h
      omega
  · rw [h1] at h
    simp only [cond_true,jf,beq_iff_eq] at h
    omega
theorem qp6 {m:Nat} (h1:2≤m) (h2:m≤5):shlS 1 (W64 ((m:Int)-1))=some ((2 ^ (m-1):Nat):Int)∧shlS 1 (IntKind.wrap .u64 (W64 ((m:Int)-1)))=some ((2 ^ (m-1):Nat):Int):=by
  have:m=2∨m=3∨m=4∨m=5:=by omega
  rcases this with rfl|rfl|rfl|rfl<;>exact ⟨by decide,by decide⟩
theorem qpJ {c:qp} (hc:qkl c) (hm:2≤c.Am.length) (hm5:c.Am.length≤5):Ev (fun n=>qes n c) (kindB c):=by
  have hl:=hc.Am.len
  have hL:Ev (fun n=>qaF c n 0 0) (((clkN c.Am c.Am.length:Nat):Int),(c.Am.length:Int)):=by
    refine loopF (Lf:=qaF c) (S:=fun j=>((clkN c.Am j:Nat):Int)) (len:=c.Am.length) (fun n=>?_) (fun j hj X hX=>?_)
    · simp only [qaF,qj (je _),cond_false]
    · have hn:clkN c.Am j≤j:=qe0
      simp only [qaF,qi hj,cond_true,qN hj,jd,wS j,qcL (show clkN c.Am j<9223372036854775807 by omega)]
      have hck:clkN c.Am (j+1)=clkN c.Am j+(bif (gt c.Am j).Bh then 1 else 0):=rfl
      rw [hck] at hX
      cases hc:(gt c.Am j).Bh
      · rw [hc] at hX;exact Ev.ff rfl hX
      · rw [hc] at hX;exact Ev.tt rfl hX
  unfold qes kindB
  refine Ev.bind hL ?_
  simp only [qc8,qbC,jd,(qp6 hm hm5).1]
  have hal:=hc.Aj.len
  refine Ev.iff (fun _=>?_) (fun _=>Ev.iff (fun _=>?_) (fun _=>Ev.iff (fun _=>?_) (fun _=>.done)))
  · exact Ev.andP fun _=>Ev.andP fun _=>Ev.last (qfv hc.Bc.len)
  · exact Ev.andP fun _=>Ev.andP fun _=>Ev.bind (ql2 hal) (Ev.andP fun _=>Ev.bind (ql2 hal) (Ev.bind (ql2 hal) .done))
  · exact Ev.andP fun _=>Ev.andP fun _=>Ev.and (ql2 hal) fun _=>Ev.and (ql2 hal) fun _=>Ev.bind (ql2 hal) .done
def cellB (c:qp):Bool :=
  nameB c.Ar&&(pinsB c.Am&&((allN (fun j=>arcI c.Am (gt c.Aj j)&&newArc c.Aj j) c.Aj.length&&decide (c.Aj.length≤8))&&(inI c.Bq 0 100000&&(inI c.Bj 0 100000&&kindB c))))
theorem qrt {c:qp} (hc:qkl c):Ev (fun n=>qiS n c) (cellB c):=by
  simp only [qiS,qog hc.Ar,qcq,jd]
  unfold cellB
  refine Ev.andP fun _=>Ev.and (qqk hc.Am) fun hp=>?_
  obtain ⟨⟨hm,hm5⟩,_⟩:=qgP hp
  exact Ev.and (qqW hc.Am hc.Aj hm) fun _=>Ev.andP fun _=>Ev.andP fun _=>Ev.last (qpJ hc hm hm5)
theorem qqJ {c:qp} (hc:qkl c):Ev (fun n=>qiF n c) (cellB c):=by
  have hal:=hc.Aj.len
  have htl:=hc.Bc.len
  have e:cellB c=((pinsB c.Am&&(nameB c.Ar&&(decide (c.Aj.length≤8)&&(inI c.Bq 0 100000&&inI c.Bj 0 100000))))&&(allN (fun j=>arcS c.Am (gt c.Aj j)&&newArc c.Aj j) c.Aj.length&&kindB c)):=by
    unfold cellB
    cases hk:kindB c
    · simp
    · cases hp:pinsB c.Am
      · simp
      · rw [qf0 (fun j _=>by rw [qse hp (qoC hk)])]
        cases nameB c.Ar<;>cases allN (fun j=>arcS c.Am (gt c.Aj j)&&newArc c.Aj j) c.Aj.length<;>cases decide (c.Aj.length≤8)<;>cases inI c.Bq 0 100000<;>cases inI c.Bj 0 100000<;>rfl
  rw [e]
  unfold qiF
  refine Ev.bind (qqR hc.Am) ?_
  cases hp:pinsB c.Am
  · exact .done
  · obtain ⟨⟨hm,hm5⟩,_⟩:=qgP hp
    simp only [cond_true,jA,Bool.not_true,cond_false]
    refine Ev.guardB ?_ (fun _=>?_)
    · simp only [qef,jd,qbb]
      refine Ev.orB (qkY hc.Ar) fun _=>?_
      rw [show decide ((c.Aj.length:Int) > 8) = !decide (c.Aj.length≤8) by rw [jh];simp;omega,qbb]
      exact Ev.orBP fun _=>Ev.orBP fun _=>.done
    · have hL2:∀ j,j<c.Aj.length→Ev (fun n=>qcg c (j:Int) (gt c.Aj j) n 0) (bif newArc c.Aj j then .nxt (j:Int) else .ret false):=by
        intro j hj
        refine qde ?_ (fun i hi X hX=>Ev.succ ?_)
        · exact Ev.succ (by simp only [qcg,qj (je _),cond_false];exact .done)
        · simp only [qcg,qi hi,cond_true,qN (show i<c.Aj.length by omega),jd,wS i]
          unfold sameArc
          cases ((gt c.Aj i).Ay==(gt c.Aj j).Ay)
          · exact hX
          · cases ((gt c.Aj i).Bd==(gt c.Aj j).Bd)
            · exact hX
            · cases ((gt c.Aj i).To==(gt c.Aj j).To)
              · exact hX
              · exact .done
      have hL1:Ev (fun n=>qd0 c n 0) (bif allN (fun j=>arcS c.Am (gt c.Aj j)&&newArc c.Aj j) c.Aj.length then .nxt (c.Aj.length:Int) else .ret false):=by
        refine qde ?_ (fun j hj X hX=>Ev.succ ?_)
        · exact Ev.succ (by simp only [qd0,qj (je _),cond_false];exact .done)
        · simp only [qd0,qi hj,cond_true,qN hj,jd,wS j]
          refine Ev.chk (qrP hc.Am (qjL hc.Aj hj) hm) fun _=>Ev.bind (hL2 j hj) ?_
          cases newArc c.Aj j
          · exact .done
          · exact hX
      have hL3:Ev (fun n=>qeg c n 0) (bif (c.Bc.all fun x=>inI x 0 1) then .nxt (c.Bc.length:Int) else .ret false) :=
        qlm (fun n=>by simp only [qeg,qj (je _),cond_false]) (fun j hj X hX=>by
          simp only [qeg,qi hj,cond_true,qf6 hj,jd,qef,wS j,qbb]
          exact Ev.okP1 fun _=>hX)
      refine Ev.bind hL1 ?_
      cases hA:allN (fun j=>arcS c.Am (gt c.Aj j)&&newArc c.Aj j) c.Aj.length
      · exact .done
      · have hk:∀ j,j<c.Aj.length→1≤(gt c.Aj j).Ay∧(gt c.Aj j).Ay≤5:=fun j hj=>by
          have:=qap.1 hA j hj
          rw [jf] at this
          exact qop this.1
        simp only [cond_true,jA]
        refine Ev.bind (qpE hc.Aj hk) ?_
        simp only [(qp6 hm hm5).2,jd,
          show idx (vecC (fun k=>kindN c.Aj k c.Aj.length) 6) (1:Int)=some ((kindN c.Aj 1 c.Aj.length:Nat):Int) from qh7 (k:=1) (by omega),
          show idx (vecC (fun k=>kindN c.Aj k c.Aj.length) 6) (2:Int)=some ((kindN c.Aj 2 c.Aj.length:Nat):Int) from qh7 (k:=2) (by omega),
          show idx (vecC (fun k=>kindN c.Aj k c.Aj.length) 6) (3:Int)=some ((kindN c.Aj 3 c.Aj.length:Nat):Int) from qh7 (k:=3) (by omega),qoj,qqA]
        unfold kindB
        refine Ev.iff (fun _=>?_) (fun _=>Ev.iff (fun _=>?_) (fun _=>Ev.iff (fun _=>?_) (fun _=>.done)))
        · refine Ev.bind hL3 ?_
          cases (c.Bc.all fun x=>inI x 0 1)
          · exact Ev.now (by simp)
          · exact (Ev.andP (fun _=>.done)).cast (by rw [Bool.and_true])
        · refine (Ev.andP fun _=>Ev.andP fun _=>Ev.andP fun _=>.done).cast ?_
          cases (((clkN c.Am c.Am.length:Nat):Int)==1)<;>cases ((c.Bc.length:Int)==0)<;>cases hasB c.Aj ((1:Nat):Int)<;>cases hasB c.Aj ((2:Nat):Int)<;>cases hasB c.Aj ((3:Nat):Int)<;>rfl
        · refine (Ev.andP fun _=>Ev.andP fun _=>Ev.andP fun _=>Ev.andP fun _=>.done).cast ?_
          cases (((clkN c.Am c.Am.length:Nat):Int)==1)<;>cases ((c.Bc.length:Int)==0)<;>cases hasB c.Aj ((1:Nat):Int)<;>cases hasB c.Aj ((2:Nat):Int)<;>cases hasB c.Aj ((3:Nat):Int)<;>rfl
def libB (l:qn):Bool:=l.Ak.all cellB&&(decide (l.Ak.length≤8)&&namesB (l.Ak.map qp.Ar))
theorem qpa {l:qn} (h:qfZ l):Ev (fun n=>qgu n l) (libB l):=by
  have hl:=h.Ak.len
  have hL:Ev (fun n=>qbP l n ([]:List ByteArray) 0) (bif allN (fun j=>cellB (gt l.Ak j)) l.Ak.length then .nxt (l.Ak.map qp.Ar,(l.Ak.length:Int)) else .ret false):=by
    refine loopN (Lf:=qbP l) (S:=fun j=>(l.Ak.take j).map qp.Ar) (fun j=>cellB (gt l.Ak j)) (fun n=>?_) (fun j hj hp X hX=>?_)
    · simp only [qbP,qj (je _),cond_false,jO]
    · simp only [qbP,qi hj,cond_true,qN hj,jd,qi1 hj hl,qem (g:=qp.Ar) hj,wS j]
      exact Ev.chk1 (qrt (qjL h.Ak hj)) hX
  unfold qgu libB
  rw [qhz]
  refine Ev.bind hL ?_
  cases allN (fun j=>cellB (gt l.Ak j)) l.Ak.length
  · exact .done
  · simp only [cond_true,jA,show decide ((l.Ak.length:Int)≤8)=decide (l.Ak.length≤8) from qiG (k:=8)]
    exact Ev.andP fun _=>Ev.last (qhh (qkp h.Ak (fun x hx=>hx.Ar)))
end Go.Fw


namespace Go.Fw
open Go
set_option maxRecDepth 100000
theorem qqi {c:qp} (h:cellB c=true):nameB c.Ar=true:=by
 unfold cellB at h;rw [jf] at h;exact h.1
theorem qkZ {c:qp} (h:cellB c=true):pinsB c.Am=true:=by
 unfold cellB at h;simp only [jf] at h;exact h.2.1
theorem qnK {l:qn} (h:qfZ l):Ev (fun n=>qgp n l) (libB l):=by
 have hl:=h.Ak.len
 have hL2:∀ j,j<l.Ak.length→Ev (fun n=>qcp l (j:Int) n 0) (bif allN (neB (l.Ak.map qp.Ar) j) j then .nxt (j:Int) else .ret false):=by
  intro j hj
  refine qde ?_ (fun i hi X hX=>Ev.succ ?_)
  ·exact Ev.succ (by simp only [qcp,qj (je _),cond_false];exact .done)
  ·simp only [qcp,qi hi,cond_true,qN (show i<l.Ak.length by omega),qN hj,jd,qfK,wS i]
   unfold neB
   rw [qh0 (g:=qp.Ar) (show i<l.Ak.length by omega),qh0 (g:=qp.Ar) hj]
   exact Ev.chkP1 (fun _=>hX)
 have hL1:Ev (fun n=>qcu l n 0) (bif allN (fun j=>cellB (gt l.Ak j)&&allN (neB (l.Ak.map qp.Ar) j) j) l.Ak.length then .nxt (l.Ak.length:Int) else .ret false):=by
  refine qde ?_ (fun j hj X hX=>Ev.succ ?_)
  ·exact Ev.succ (by simp only [qcu,qj (je _),cond_false];exact .done)
  ·simp only [qcu,qi hj,cond_true,qN hj,jd,wS j]
   refine Ev.chk (qqJ (qjL h.Ak hj)) fun _=>Ev.bind (hL2 j hj) ?_
   cases allN (neB (l.Ak.map qp.Ar) j) j
   ·exact .done
   ·exact hX
 have e:libB l=(allN (fun j=>cellB (gt l.Ak j)&&allN (neB (l.Ak.map qp.Ar) j) j) l.Ak.length&&decide (l.Ak.length≤8)):=by
  unfold libB namesB
  rw [qhz,jE,Bool.and_comm (decide (l.Ak.length≤8)),←Bool.and_assoc,←qjU]
  congr 1
  refine qf0 (fun j hj=>?_)
  rw [qh0 (g:=qp.Ar) hj]
  cases hc:cellB (gt l.Ak j)
  ·rfl
  ·rw [qqi hc];rfl
 rw [e]
 unfold qgp
 refine Ev.bind hL1 ?_
 cases allN (fun j=>cellB (gt l.Ak j)&&allN (neB (l.Ak.map qp.Ar) j) j) l.Ak.length
 ·exact .done
 ·refine Ev.now ?_
  show some (decide ((l.Ak.length:Int)≤((8:Nat):Int)))=some (true&&decide (l.Ak.length≤8))
  rw [qiG,jA]
theorem qi2 {c c':Nat→Nat} {m:Nat} {x:Int} (h0:0≤x) (h1:x<m) (hc:c x.toNat<9223372036854775807) (he:∀ k,k<m→c' k=c k+(bif x==(k:Int) then 1 else 0)) :
  idx (vecC c m) x=some (c x.toNat:Int)∧setS (vecC c m) x (W64 ((c x.toNat:Int)+1))=vecC c' m:=by
 have ex:x=(x.toNat:Int):=qj4 h0
 have e1:=qh7 (c:=c) (m:=m) (k:=x.toNat) (by omega)
 have e2:=qou (c:=c) (m:=m) (k:=x.toNat) hc
 rw [←ex] at e1 e2
 refine ⟨e1,e2.trans (qip (fun k hk=>?_))⟩
 rw [he k hk]
 congr 2
 rw [jh];simp;omega
def netB (d:qc) (x:Int):Bool:=inI x 0 ((d.Ah.length:Int)-1)
theorem qns {n:Nat} {d:qc} {x:Int} (hl:d.Ah.length≤1048576):qbm n d x=some (netB d x):=by
 simp only [qbm,qf3,jd,qcq,qdk (show d.Ah.length≤9223372036854775807 by omega)];rfl
theorem ql3 {n:Nat} {d:qc} {x:Int} (hl:d.Ah.length≤1048576):qX n x 0 (W64 ((d.Ah.length:Int)-1))=some (netB d x):=by
 rw [qef,qdk (show d.Ah.length≤9223372036854775807 by omega)];rfl
def hasNamesB (d:qc):Bool:=(decide (d.Aa.length≤14)&&(decide (d.Ah.length≤30)&&decide (d.Af.length≤8)))&&(namesB (d.Aa.map qd.Ar)&&(namesB d.Ah&&namesB (d.Af.map qB.Ar)))
theorem qpu {d:qc} (h:qh1 d):Ev (fun n=>qdE n d) (hasNamesB d):=by
 have hli:=h.Aa.len
 have hlp:=h.Af.len
 have hL1:Ev (fun n=>qaL d n ([]:List ByteArray) 0) (d.Aa.map qd.Ar,(d.Aa.length:Int)):=by
  refine loopF (Lf:=qaL d) (S:=fun j=>(d.Aa.take j).map qd.Ar) (len:=d.Aa.length) (fun n=>?_) (fun j hj X hX=>?_)
  ·simp only [qaL,qj (je _),cond_false,jO]
  ·simpa only [qaL,qi hj,cond_true,qN hj,jd,qi1 hj hli,qem (g:=qd.Ar) hj,wS j] using hX
 have hL2:Ev (fun n=>qaK d n ([]:List ByteArray) 0) (d.Af.map qB.Ar,(d.Af.length:Int)):=by
  refine loopF (Lf:=qaK d) (S:=fun j=>(d.Af.take j).map qB.Ar) (len:=d.Af.length) (fun n=>?_) (fun j hj X hX=>?_)
  ·simp only [qaK,qj (je _),cond_false,jO]
  ·simpa only [qaK,qi hj,cond_true,qN hj,jd,qi1 hj hlp,qem (g:=qB.Ar) hj,wS j] using hX
 unfold qdE hasNamesB
 refine Ev.bind hL1 (Ev.bind hL2 ?_)
 simp only [jE]
 rw [show decide ((d.Aa.length:Int)≤14)=decide (d.Aa.length≤14) from qiG (k:=14),show decide ((d.Ah.length:Int)≤30)=decide (d.Ah.length≤30) from qiG (k:=30),show decide ((d.Af.length:Int)≤8)=decide (d.Af.length≤8) from qiG (k:=8)]
 rw [Bool.and_assoc,Bool.and_assoc]
 exact Ev.andP fun _=>Ev.andP fun _=>Ev.andP fun _=>Ev.and (qhh (qkp h.Aa (fun x hx=>hx.Ar))) fun _=>Ev.and (qhh h.Ah) fun _=>Ev.last (qhh (qkp h.Af (fun x hx=>hx.Ar)))
def instB (l:qn) (d:qc) (x:qd):Bool:=inI x.Bl 0 ((l.Ak.length:Int)-1)&&(((x.Ah.length:Int)==((gt l.Ak x.Bl.toNat).Am.length:Int))&&x.Ah.all (netB d))
theorem qnW {d:qc} {l:qn} {x:qd} (hn:d.Ah.length≤1048576) (hc:l.Ak.length≤1048576) (hx:x.Ah.length≤1048576):Ev (fun n=>qcS n d l x) (instB l d x):=by
 simp only [qcS,qeT,jd,qcq,qdk (show l.Ak.length≤9223372036854775807 by omega)]
 unfold instB
 refine Ev.andP fun hI=>?_
 rw [qbG] at hI
 rw [qix hI.1 (by omega)]
 simp only [jd]
 refine Ev.andP fun _=>Ev.bind (b:=x.Ah.any fun y=>!netB d y) ?_ (Ev.now (by rw [qmQ]))
 unfold qaj
 exact Ev.bind (b:=ixL (fun y=>!netB d y) x.Ah) (qfF (fin:=(x.Ah.length:Int)) (Lf:=qy x.Ah d) (pf:=fun n y=>qcd n y d) (fun y _=>⟨0,fun n _=>by simp only [qcd,qns hn,jd]⟩)
   (fun n=>by simp only [qy,qj (je _),cond_false])
   (fun n j y hx=>by
    have hj:=(List.getElem?_eq_some_iff.1 hx).1
    simp only [qy,qi hj,cond_true,qz hx,jd,wS j])
   (fun n=>by unfold qav;congr 1;funext o;cases o<;>rfl)) (Ev.now (by rw [qkO]))
def portB (d:qc) (p:qB):Bool:=inI p.Bm 1 2&&netB d p.Bp
theorem quk {x:Int}:inI x 1 2=((x==1) || (x==2)):=by
 unfold inI;rw [jh];simp;omega
def lastN (x:qd):Int:=at0 x.Ah (x.Ah.length-1)
theorem qpP {x:qd} (h1:1≤x.Ah.length) (h2:x.Ah.length≤1048576):idx x.Ah (W64 ((x.Ah.length:Int)-1))=some (lastN x):=by
 rw [qdk (by omega),show ((x.Ah.length:Int)-1)=((x.Ah.length-1:Nat):Int) by omega,qbQ (by omega)];rfl
theorem qri {d:qc} {x:qd} (h1:1≤x.Ah.length) (h:x.Ah.all (netB d)=true):0≤lastN x∧lastN x<d.Ah.length:=by
 rw [qhi (d:=0),qap] at h
 have:=h (x.Ah.length-1) (by omega)
 unfold netB at this
 rw [qbG] at this
 unfold lastN at0
 omega
theorem qnl {l:qn} {d:qc} {x:qd} (hl:libB l=true) (h:instB l d x=true):1≤x.Ah.length∧0≤lastN x∧lastN x<d.Ah.length:=by
 unfold instB at h
 simp only [jf,qbG,beq_iff_eq] at h
 obtain ⟨h1,h2,h3⟩:=h
 unfold libB at hl
 simp only [jf] at hl
 have hc:=hl.1
 rw [qhz,qap] at hc
 have:=qgP (qkZ (hc x.Bl.toNat (by omega)))
 have h4:1≤x.Ah.length:=by omega
 exact ⟨h4,qri h4 h3⟩
def drvI (d:qc) (k j:Nat):Nat:=cntP (fun i=>lastN (gt d.Aa i)==(k:Int)) j
def drvP (d:qc) (k j:Nat):Nat:=cntP (fun i=>((gt d.Af i).Bm==1)&&((gt d.Af i).Bp==(k:Int))) j
def drvB (d:qc):Bool:=allN (fun k=>((drvI d k d.Aa.length+drvP d k d.Af.length:Nat):Int)==1) d.Ah.length
def designB (l:qn) (d:qc):Bool:=(libB l&&hasNamesB d)&&(d.Aa.all (instB l d)&&(d.Af.all (portB d)&&drvB d))
theorem qlL {d:qc} {k j:Nat}:drvI d k (j+1)=drvI d k j+(bif lastN (gt d.Aa j)==(k:Int) then 1 else 0):=rfl
theorem qkk {d:qc} {k j:Nat}:drvP d k (j+1)=drvP d k j+(bif ((gt d.Af j).Bm==1)&&((gt d.Af j).Bp==(k:Int)) then 1 else 0):=rfl
theorem qpW {l:qn} {d:qc} (h:qfZ l) (hd:qh1 d):Ev (fun n=>qg0 n l d) (designB l d):=by
 have hli:=hd.Aa.len
 have hlp:=hd.Af.len
 have hln:=hd.Ah.len
 have hlc:=h.Ak.len
 unfold qg0 designB
 refine Ev.guardB (Ev.or (qpa h) fun _=>Ev.neg (qpu hd)) fun hb=>?_
 rw [jf] at hb
 rw [qko (m:=d.Ah.length) (by omega)]
 simp only [jd]
 have hL1:Ev (fun n=>qb7 l d n (vecC (fun _=>0) d.Ah.length) 0) (bif allN (fun j=>instB l d (gt d.Aa j)) d.Aa.length then .nxt (vecC (fun k=>drvI d k d.Aa.length) d.Ah.length,(d.Aa.length:Int)) else .ret false):=by
  refine loopN (Lf:=qb7 l d) (S:=fun j=>vecC (fun k=>drvI d k j) d.Ah.length) (fun j=>instB l d (gt d.Aa j)) (fun n=>?_) (fun j hj hp X hX=>?_)
  ·simp only [qb7,qj (je _),cond_false]
  ·simp only [qb7,qi hj,cond_true,qN hj,jd,wS j]
   have hxl:=(qjL hd.Aa hj).Ah.len
   refine Ev.chk1 (qnW hln hlc hxl) fun hi=>?_
   obtain ⟨h1,h2,h3⟩:=qnl hb.1 hi
   have hc:drvI d (lastN (gt d.Aa j)).toNat j≤j:=qe0
   obtain ⟨e1,e2⟩:=qi2 (c:=fun k=>drvI d k j) (c':=fun k=>drvI d k (j+1)) h2 h3 (by show drvI _ _ _<_;omega) (fun k _=>qlL)
   simp only [qpP h1 hxl,jd,e1,e2]
   exact hX hi
 have hL2:Ev (fun n=>qbz d n (vecC (fun k=>drvI d k d.Aa.length) d.Ah.length) 0) (bif allN (fun j=>portB d (gt d.Af j)) d.Af.length then .nxt (vecC (fun k=>drvI d k d.Aa.length+drvP d k d.Af.length) d.Ah.length,(d.Af.length:Int)) else .ret false):=by
  refine loopN (Lf:=qbz d) (S:=fun j=>vecC (fun k=>drvI d k d.Aa.length+drvP d k j) d.Ah.length) (fun j=>portB d (gt d.Af j)) (fun n=>?_) (fun j hj hp X hX=>?_)
  ·simp only [qbz,qj (je _),cond_false]
  ·simp only [qbz,qi hj,cond_true,qN hj,jd,qns hln,bne,wS j]
   refine Ev.chkT1 ?_ fun hi=>?_
   ·unfold portB
    rw [quk]
    cases ((gt d.Af j).Bm==1)<;>cases ((gt d.Af j).Bm==2)<;>exact .done
   ·have hX:=hX hi
    unfold portB netB at hi
    simp only [jf,qbG] at hi
    have hc1:drvI d (gt d.Af j).Bp.toNat d.Aa.length≤d.Aa.length:=qe0
    have hc2:drvP d (gt d.Af j).Bp.toNat j≤j:=qe0
    cases h1:((gt d.Af j).Bm==1)
    ·have:vecC (fun k=>drvI d k d.Aa.length+drvP d k (j+1)) d.Ah.length=vecC (fun k=>drvI d k d.Aa.length+drvP d k j) d.Ah.length:=by
      refine qip (fun k _=>?_)
      rw [qkk,h1];rfl
     rw [this] at hX
     exact hX
    ·obtain ⟨e1,e2⟩:=qi2 (c:=fun k=>drvI d k d.Aa.length+drvP d k j) (c':=fun k=>drvI d k d.Aa.length+drvP d k (j+1)) (x:=(gt d.Af j).Bp) (m:=d.Ah.length) hi.2.1 (by omega) (by show drvI _ _ _+drvP _ _ _<_;omega) (fun k _=>by rw [qkk,h1,jA];omega)
     simp only [cond_true,jd,e1,e2]
     exact hX
 rw [qhz,qhz]
 refine Ev.bind hL1 ?_
 cases allN (fun j=>instB l d (gt d.Aa j)) d.Aa.length
 ·exact .done
 ·refine Ev.bind hL2 ?_
  cases allN (fun j=>portB d (gt d.Af j)) d.Af.length
  ·exact .done
  ·simp only [cond_true,jA]
   unfold qa9
   refine Ev.bind (b:=(vecC (fun k=>drvI d k d.Aa.length+drvP d k d.Af.length) d.Ah.length).any fun x=>!(x==1)) (Ev.bind (b:=ixL (fun x=>!(x==1)) (vecC (fun k=>drvI d k d.Aa.length+drvP d k d.Af.length) d.Ah.length)) (qfF (fin:=(((vecC (fun k=>drvI d k d.Aa.length+drvP d k d.Af.length) d.Ah.length).length:Nat):Int)) (Lf:=qT (vecC (fun k=>drvI d k d.Aa.length+drvP d k d.Af.length) d.Ah.length)) (pf:=fun n y=>qhw n y) (fun y _=>.done)
    (fun n=>by simp only [qT,qj (je _),cond_false])
    (fun n j y hx=>by
     have hj:=(List.getElem?_eq_some_iff.1 hx).1
     have:j<d.Ah.length:=by rw [qke] at hj;exact hj
     simp only [qT,qi hj,cond_true,qz hx,jd,wS j])
    (fun n=>by unfold qbl;congr 1;funext o;cases o<;>rfl)) (Ev.now (by rw [qkO]))) (Ev.now ?_)
   rw [qmQ,qhi (d:=0),qke]
   unfold drvB
   congr 1
   exact qf0 (fun k hk=>by
    have:=qpi (c:=fun k=>drvI d k d.Aa.length+drvP d k d.Af.length) hk
    unfold at0 at this
    rw [this])
theorem qpz {l:qn} {d:qc} (h:qfZ l) (hd:qh1 d):Ev (fun n=>qgZ n l d) (d.Aa.all (instB l d)&&d.Af.all (portB d)):=by
 have hli:=hd.Aa.len
 have hlp:=hd.Af.len
 have hln:=hd.Ah.len
 have hlc:=h.Ak.len
 have hL2:∀ x:qd,x.Ah.length≤1048576→Ev (fun n=>qc1 d x n 0) (bif x.Ah.all (netB d) then .nxt (x.Ah.length:Int) else .ret false):=fun x hx =>
  qlm (fun n=>by simp only [qc1,qj (je _),cond_false]) (fun j hj X hX=>by
   simp only [qc1,qi hj,cond_true,qf6 hj,jd,ql3 hln,wS j,qbb]
   exact Ev.okP1 fun _=>hX)
 have hL1:Ev (fun n=>qc6 l d n 0) (bif allN (fun j=>instB l d (gt d.Aa j)) d.Aa.length then .nxt (d.Aa.length:Int) else .ret false):=by
  refine qde ?_ (fun j hj X hX=>Ev.succ ?_)
  ·exact Ev.succ (by simp only [qc6,qj (je _),cond_false];exact .done)
  ·simp only [qc6,qi hj,cond_true,qN hj,jd,qef,qdk (show l.Ak.length≤9223372036854775807 by omega),wS j,bne]
   have hxl:=(qjL hd.Aa hj).Ah.len
   unfold instB
   rw [←Bool.and_assoc]
   refine Ev.chkT ?_ fun _=>Ev.bind (hL2 _ hxl) ?_
   ·simp only [qbb]
    refine Ev.orBP fun hI=>?_
    rw [qbG] at hI
    rw [qix hI.1 (by omega)]
    exact .done
   ·cases (gt d.Aa j).Ah.all (netB d)
    ·exact .done
    ·exact hX
 have hL3:Ev (fun n=>qc7 d n 0) (bif allN (fun j=>portB d (gt d.Af j)) d.Af.length then .nxt (d.Af.length:Int) else .ret false):=by
  refine qde ?_ (fun j hj X hX=>Ev.succ ?_)
  ·exact Ev.succ (by simp only [qc7,qj (je _),cond_false];exact .done)
  ·simp only [qc7,qi hj,cond_true,qN hj,jd,ql3 hln,wS j]
   simp only [qef,jd,qbb]
   unfold portB
   exact Ev.okP fun _=>Ev.okP1 fun _=>hX
 unfold qgZ
 rw [qhz,qhz]
 refine Ev.bind hL1 ?_
 cases allN (fun j=>instB l d (gt d.Aa j)) d.Aa.length
 ·exact .done
 ·refine Ev.bind hL3 ?_
  cases allN (fun j=>portB d (gt d.Af j)) d.Af.length<;>exact .done
theorem qpc {l:qn} {d:qc} (h:qfZ l) (hd:qh1 d):Ev (fun n=>qgX n l d) (designB l d):=by
 have hli:=hd.Aa.len
 have hlp:=hd.Af.len
 have hln:=hd.Ah.len
 have hlc:=h.Ak.len
 have e:designB l d=((libB l&&(decide (d.Aa.length≤14)&&(decide (d.Ah.length≤30)&&(decide (d.Af.length≤8)&&(d.Aa.all (instB l d)&&d.Af.all (portB d))))))&&((namesB (d.Aa.map qd.Ar)&&(namesB (d.Af.map qB.Ar)&&namesB d.Ah))&&drvB d)):=by
  unfold designB hasNamesB
  generalize libB l=a1
  generalize decide (d.Aa.length≤14)=a2
  generalize decide (d.Ah.length≤30)=a3
  generalize decide (d.Af.length≤8)=a4
  generalize d.Aa.all (instB l d)=a5
  generalize d.Af.all (portB d)=a6
  generalize namesB (d.Aa.map qd.Ar)=a7
  generalize namesB (d.Af.map qB.Ar)=a8
  generalize namesB d.Ah=a9
  generalize drvB d=a10
  rw [jh]
  simp only [jf]
  constructor
  ·rintro ⟨⟨h1,⟨h2,h3,h4⟩,h7,h9,h8⟩,h5,h6,h10⟩
   exact ⟨⟨h1,h2,h3,h4,h5,h6⟩,⟨h7,h8,h9⟩,h10⟩
  ·rintro ⟨⟨h1,h2,h3,h4,h5,h6⟩,⟨h7,h8,h9⟩,h10⟩
   exact ⟨⟨h1,⟨h2,h3,h4⟩,h7,h9,h8⟩,h5,h6,h10⟩
 rw [e]
 unfold qgX
 refine Ev.guardB ?_ fun hb=>?_
 ·refine Ev.or (qnK h) fun _=>?_
  rw [show decide ((d.Aa.length:Int) > 14) = !decide (d.Aa.length≤14) by rw [jh];simp;omega,show decide ((d.Ah.length:Int) > 30) = !decide (d.Ah.length≤30) by rw [jh];simp;omega,show decide ((d.Af.length:Int) > 8) = !decide (d.Af.length≤8) by rw [jh];simp;omega]
  simp only [qbb]
  exact Ev.orBP fun _=>Ev.orBP fun _=>Ev.orBP fun _=>Ev.neg (qpz h hd)
 ·simp only [jf] at hb
  obtain ⟨hlib,_,_,_,hI,hP⟩:=hb
  rw [qhz,qap] at hI hP
  have hL1:Ev (fun n=>qb5 d n ([]:List ByteArray) 0) (d.Aa.map qd.Ar,(d.Aa.length:Int)):=by
   refine loopF (Lf:=qb5 d) (S:=fun j=>(d.Aa.take j).map qd.Ar) (len:=d.Aa.length) (fun n=>?_) (fun j hj X hX=>?_)
   ·simp only [qb5,qj (je _),cond_false,jO]
   ·simpa only [qb5,qi hj,cond_true,qN hj,jd,qi1 hj hli,qem (g:=qd.Ar) hj,wS j] using hX
  have hL2:Ev (fun n=>qb6 d n ([]:List ByteArray) 0) (d.Af.map qB.Ar,(d.Af.length:Int)):=by
   refine loopF (Lf:=qb6 d) (S:=fun j=>(d.Af.take j).map qB.Ar) (len:=d.Af.length) (fun n=>?_) (fun j hj X hX=>?_)
   ·simp only [qb6,qj (je _),cond_false,jO]
   ·simpa only [qb6,qi hj,cond_true,qN hj,jd,qi1 hj hlp,qem (g:=qB.Ar) hj,wS j] using hX
  have hL3:Ev (fun n=>qcb d n (vecC (fun _=>0) d.Ah.length) 0) (vecC (fun k=>drvI d k d.Aa.length) d.Ah.length,(d.Aa.length:Int)):=by
   refine loopF (Lf:=qcb d) (S:=fun j=>vecC (fun k=>drvI d k j) d.Ah.length) (len:=d.Aa.length) (fun n=>?_) (fun j hj X hX=>?_)
   ·simp only [qcb,qj (je _),cond_false]
   ·have hxl:=(qjL hd.Aa hj).Ah.len
    obtain ⟨h1,h2,h3⟩:=qnl hlib (hI j hj)
    have hc:drvI d (lastN (gt d.Aa j)).toNat j≤j:=qe0
    obtain ⟨e1,e2⟩:=qi2 (c:=fun k=>drvI d k j) (c':=fun k=>drvI d k (j+1)) h2 h3 (by show drvI _ _ _<_;omega) (fun k _=>qlL)
    simpa only [qcb,qi hj,cond_true,qN hj,jd,wS j,qpP h1 hxl,e1,e2] using hX
  have hL4:Ev (fun n=>qbB d n (vecC (fun k=>drvI d k d.Aa.length) d.Ah.length) 0) (vecC (fun k=>drvI d k d.Aa.length+drvP d k d.Af.length) d.Ah.length,(d.Af.length:Int)):=by
   refine loopF (Lf:=qbB d) (S:=fun j=>vecC (fun k=>drvI d k d.Aa.length+drvP d k j) d.Ah.length) (len:=d.Af.length) (fun n=>?_) (fun j hj X hX=>?_)
   ·simp only [qbB,qj (je _),cond_false]
   ·have hi:=hP j hj
    unfold portB netB at hi
    simp only [jf,qbG] at hi
    have hc1:drvI d (gt d.Af j).Bp.toNat d.Aa.length≤d.Aa.length:=qe0
    have hc2:drvP d (gt d.Af j).Bp.toNat j≤j:=qe0
    simp only [qbB,qi hj,cond_true,qN hj,jd,wS j]
    cases h1:((gt d.Af j).Bm==1)
    ·have:vecC (fun k=>drvI d k d.Aa.length+drvP d k (j+1)) d.Ah.length=vecC (fun k=>drvI d k d.Aa.length+drvP d k j) d.Ah.length:=by
      refine qip (fun k _=>?_)
      rw [qkk,h1];rfl
     rw [this] at hX
     exact hX
    ·obtain ⟨e1,e2⟩:=qi2 (c:=fun k=>drvI d k d.Aa.length+drvP d k j) (c':=fun k=>drvI d k d.Aa.length+drvP d k (j+1)) (x:=(gt d.Af j).Bp) (m:=d.Ah.length) hi.2.1 (by omega) (by show drvI _ _ _+drvP _ _ _<_;omega) (fun k _=>by rw [qkk,h1,jA];omega)
     simp only [cond_true,jd,e1,e2]
     exact hX
  have hL5:Ev (fun n=>qc4 (vecC (fun _=>0) d.Ah.length) (vecC (fun k=>drvI d k d.Aa.length+drvP d k d.Af.length) d.Ah.length) n 0) (bif drvB d then .nxt (d.Ah.length:Int) else .ret false):=by
   refine qde ?_ (fun j hj X hX=>Ev.succ ?_)
   ·exact Ev.succ (by simp only [qc4,qke,qj (je _),cond_false];exact .done)
   ·simp only [qc4,qke,qi hj,cond_true,qh7 hj,jd,bne,qbb,wS j]
    exact Ev.okP1 fun _=>hX
  refine Ev.bind hL1 (Ev.bind hL2 ?_)
  refine Ev.guardB (Ev.or (qj8 (qkp hd.Aa (fun x hx=>hx.Ar))) fun _=>Ev.or (qj8 (qkp hd.Af (fun x hx=>hx.Ar))) fun _=>Ev.neg (qj8 hd.Ah)) fun _=>?_
  rw [qko (m:=d.Ah.length) (by omega)]
  simp only [jd]
  refine Ev.bind hL3 (Ev.bind hL4 (Ev.bind hL5 ?_))
  cases drvB d<;>exact .done
end Go.Fw


namespace Go.Fw
open Go
set_option maxRecDepth 100000
theorem qs9 {m k:Nat}:decide ((m:Int)<(k:Int)) = !decide (k≤m):=by rw [jh];simp
theorem qtc {m k:Nat}:decide ((m:Int) > (k:Int)) = !decide (m≤k):=by rw [jh];simp
def treeB (w:qw) (j:Nat):Bool:=bif decide (j=0) then (at0 w.Ai j==-1)&&(at0 w.Bn j==0) else inI (at0 w.Ai j) 0 ((j:Int)-1)
def wireB (w:qw) (s:Int):Bool :=
 lenB w.Ai 1 8&&(((w.Bn.length:Int)==(w.Ai.length:Int))&&(((w.Bk.length:Int)==(w.Ai.length:Int))&&(allN (treeB w) w.Ai.length &&
  ((w.Bn.all fun x=>inI x 0 1000)&&((w.Bk.all fun x=>inI x 0 500)&&(((w.Bg.length:Int)==s)&&(w.Bg.all fun x=>inI x 0 ((w.Ai.length:Int)-1))))))))
theorem qrX {w:qw} (hl:w.Ai.length≤1048576) (hr:((w.Bn.length:Int)==(w.Ai.length:Int))=true):Ev (fun n=>qfl n w) (allN (treeB w) w.Ai.length):=by
 rw [beq_iff_eq] at hr
 have hL:Ev (fun n=>qaI w n 0) (bif allN (treeB w) w.Ai.length then .nxt (w.Ai.length:Int) else .ret false):=by
  refine qde ?_ (fun j hj X hX=>Ev.succ ?_)
  ·exact Ev.succ (by simp only [qaI,qj (je _),cond_false];exact .done)
  ·simp only [qaI,qi hj,cond_true,qbQ hj,jd,qcq,wS j,bne,qbb]
   unfold treeB
   by_cases h0:j=0
   ·subst h0
    rw [show idx w.Bn (0:Int)=some (at0 w.Bn 0) from qbQ (j:=0) (by omega)]
    simp only [jd]
    refine Ev.tt (by simp) (Ev.okP fun _=>Ev.okP1 fun _=>Ev.ff (by simp) hX)
   ·have e1:decide (j=0)=false:=by simp;omega
    have e2:((j:Int)==0)=false:=by simp;omega
    have e3:decide ((j:Int) > 0)=true:=by simp;omega
    rw [e1,e2,e3,qdk (show j≤9223372036854775807 by omega)]
    simp only [cond_false,cond_true]
    exact Ev.okP1 fun _=>hX
 unfold qfl
 refine Ev.bind hL ?_
 cases allN (treeB w) w.Ai.length<;>exact .done
theorem qrj {w:qw} {s:Int} (h:qln w):Ev (fun n=>qiP n w s) (wireB w s):=by
 have hl:=h.Ai.len
 simp only [qiP,qaR,jd,qcq,qdk (show w.Ai.length≤9223372036854775807 by omega)]
 unfold wireB
 rw [show inI (w.Ai.length:Int) 1 8=lenB w.Ai 1 8 from qoY (lo:=1) (hi:=8)]
 exact Ev.andP fun _=>Ev.andP fun hr=>Ev.andP fun _=>Ev.and (qrX hl hr) fun _=>Ev.and (qfv h.Bn.len) fun _=>Ev.and (qfv h.Bk.len) fun _=>Ev.andP fun _=>Ev.last (qfv h.Bg.len)
theorem qqK {w:qw} {s:Int} (h:qln w):Ev (fun n=>qiE n w s) (wireB w s):=by
 have hl:=h.Ai.len
 have hsl:=h.Bg.len
 have e:wireB w s=((decide (1≤w.Ai.length)&&(decide (w.Ai.length≤8)&&(((w.Bn.length:Int)==(w.Ai.length:Int))&&(((w.Bk.length:Int)==(w.Ai.length:Int))&&((w.Bg.length:Int)==s)))))&&(allN (fun j=>(inI (at0 w.Bk j) 0 500&&inI (at0 w.Bn j) 0 1000)&&treeB w j) w.Ai.length&&(w.Bg.all fun x=>inI x 0 ((w.Ai.length:Int)-1)))):=by
  unfold wireB lenB
  cases h1:((w.Bn.length:Int)==(w.Ai.length:Int))
  ·simp
  ·cases h2:((w.Bk.length:Int)==(w.Ai.length:Int))
   ·simp
   ·rw [beq_iff_eq] at h1 h2
    rw [qjU,qjU]
    rw [qhi (p:=fun x=>inI x 0 1000) (d:=0),qhi (p:=fun x=>inI x 0 500) (d:=0),show w.Bn.length=w.Ai.length by omega,show w.Bk.length=w.Ai.length by omega]
    show _=(_&&((allN (fun j=>inI (w.Bk.getD j 0) 0 500) _&&allN (fun j=>inI (w.Bn.getD j 0) 0 1000) _&&_)&&_))
    generalize allN (fun j=>inI (w.Bk.getD j 0) 0 500) w.Ai.length=a1
    generalize allN (fun j=>inI (w.Bn.getD j 0) 0 1000) w.Ai.length=a2
    generalize allN (fun j=>treeB w j) w.Ai.length=a3
    generalize ((w.Bg.length:Int)==s)=a4
    generalize decide (1≤w.Ai.length)=a5
    generalize decide (w.Ai.length≤8)=a6
    generalize (w.Bg.all fun x=>inI x 0 ((w.Ai.length:Int)-1))=a7
    cases a1<;>cases a2<;>cases a3<;>cases a4<;>cases a5<;>cases a6<;>rfl
 rw [e]
 unfold qiE
 refine Ev.guardB ?_ fun hb=>?_
 ·rw [show decide ((w.Ai.length:Int)<1) = !decide (1≤w.Ai.length) from qs9 (k:=1),show decide ((w.Ai.length:Int) > 8) = !decide (w.Ai.length≤8) from qtc (k:=8)]
  simp only [bne,qbb]
  exact Ev.orBP fun _=>Ev.orBP fun _=>Ev.orBP fun _=>Ev.orBP fun _=>.done
 ·simp only [jf,beq_iff_eq] at hb
  have hL1:Ev (fun n=>qbL w n 0) (bif allN (fun j=>(inI (at0 w.Bk j) 0 500&&inI (at0 w.Bn j) 0 1000)&&treeB w j) w.Ai.length then .nxt (w.Ai.length:Int) else .ret false):=by
   refine qde ?_ (fun j hj X hX=>Ev.succ ?_)
   ·exact Ev.succ (by simp only [qbL,qj (je _),cond_false];exact .done)
   ·simp only [qbL,qi hj,cond_true,qbQ hj,qbQ (show j<w.Bk.length by omega),qbQ (show j<w.Bn.length by omega),jd,qef,wS j,bne,qbb]
    refine Ev.chkT (Ev.orBP fun _=>.done) fun _=>?_
    unfold treeB
    by_cases h0:j=0
    ·subst h0
     refine Ev.tt (by simp) (Ev.okP fun _=>Ev.okP1 fun _=>Ev.ff (by simp) hX)
    ·have e1:decide (j=0)=false:=by simp;omega
     have e2:((j:Int)==0)=false:=by simp;omega
     have e3:decide ((j:Int) > 0)=true:=by simp;omega
     rw [e1,e2,e3,qdk (show j≤9223372036854775807 by omega)]
     simp only [cond_false,cond_true]
     exact Ev.okP1 fun _=>hX
  have hL2:Ev (fun n=>qec w n 0) (bif (w.Bg.all fun x=>inI x 0 ((w.Ai.length:Int)-1)) then .nxt (w.Bg.length:Int) else .ret false) :=
   qlm (fun n=>by simp only [qec,qj (je _),cond_false]) (fun j hj X hX=>by
    simp only [qec,qi hj,cond_true,qf6 hj,jd,qef,qdk (show w.Ai.length≤9223372036854775807 by omega),wS j,qbb]
    exact Ev.okP1 fun _=>hX)
  refine Ev.bind hL1 ?_
  cases allN (fun j=>(inI (at0 w.Bk j) 0 500&&inI (at0 w.Bn j) 0 1000)&&treeB w j) w.Ai.length
  ·exact .done
  ·refine Ev.bind hL2 ?_
   cases (w.Bg.all fun x=>inI x 0 ((w.Ai.length:Int)-1))<;>exact .done
instance:Inhabited Tplace:=⟨⟨0,0,0,false⟩⟩
instance:Inhabited Tl05Place:=⟨⟨0,0,0,false⟩⟩
def toSp (p:Tplace):Tl05Place:=⟨p.instance_,p.pin,p.net,p.drives⟩
def plX (i:Nat) (x:qd) (j:Nat):List Tplace:=(List.range j).map fun (k:Nat)=>⟨(i:Int),(k:Int),at0 x.Ah k,decide (k+1=x.Ah.length)⟩
def plI (d:qc) (j:Nat):List Tplace:=(List.range j).flatMap fun (i:Nat)=>plX i (gt d.Aa i) (gt d.Aa i).Ah.length
def plP (d:qc) (j:Nat):List Tplace:=(List.range j).map fun (i:Nat)=>⟨-1,(i:Int),(gt d.Af i).Bp,(gt d.Af i).Bm==1⟩
def places (d:qc):List Tplace:=plI d d.Aa.length++plP d d.Af.length
theorem qpp {i:Nat} {x:qd} {j:Nat}:plX i x (j+1)=plX i x j++[⟨(i:Int),(j:Int),at0 x.Ah j,decide (j+1=x.Ah.length)⟩]:=by
 unfold plX;rw [List.range_succ,jK];rfl
theorem qkf {d:qc} {j:Nat}:plI d (j+1)=plI d j++plX j (gt d.Aa j) (gt d.Aa j).Ah.length:=by
 unfold plI;rw [List.range_succ,List.flatMap_append];simp
theorem qpY {d:qc} {j:Nat}:plP d (j+1)=plP d j++[⟨-1,(j:Int),(gt d.Af j).Bp,(gt d.Af j).Bm==1⟩]:=by
 unfold plP;rw [List.range_succ,jK];rfl
theorem qmO {i:Nat} {x:qd} {j:Nat}:(plX i x j).length=j:=by simp [plX]
theorem qmS {d:qc} {j:Nat}:(plP d j).length=j:=by simp [plP]
structure smallD (d:qc):Prop where
 ni:d.Aa.length≤14
 nn:d.Ah.length≤30
 np:d.Af.length≤8
 nx:∀ i,i<d.Aa.length→2≤(gt d.Aa i).Ah.length∧(gt d.Aa i).Ah.length≤5
theorem qbs {l:qn} {d:qc} (h:designB l d=true):smallD d:=by
 unfold designB hasNamesB libB at h
 simp only [jf,decide_eq_true_eq] at h
 obtain ⟨⟨⟨hc,_⟩,⟨h1,h2,h3⟩,_⟩,hI,_⟩:=h
 refine ⟨h1,h2,h3,fun i hi=>?_⟩
 rw [qhz,qap] at hI hc
 have:=hI i hi
 unfold instB at this
 simp only [jf,qbG,beq_iff_eq] at this
 have h5:=qgP (qkZ (hc (gt d.Aa i).Bl.toNat (by omega)))
 omega
theorem qk8 {d:qc} (h:smallD d) {j:Nat} (hj:j≤d.Aa.length):(plI d j).length≤5*j:=by
 induction j with
 | zero=>exact je _
 | succ j ih =>
  rw [qkf,jm,qmO]
  have:=ih (by omega)
  have:=h.nx j (by omega)
  omega
theorem qdQ {d:qc} (h:smallD d):(places d).length≤78:=by
 unfold places
 rw [jm,qmS]
 have:=qk8 h (je _)
 have:=h.ni
 have:=h.np
 omega
theorem qks {d:qc} (h:smallD d):Ev (fun n=>qbv n d) (places d):=by
 have h1:=h.ni
 have h2:=h.np
 have hL2:∀ i,i<d.Aa.length→∀ pre:List Tplace,pre.length≤100→Ev (fun n=>qa7 (i:Int) (gt d.Aa i) n pre 0) (pre++plX i (gt d.Aa i) (gt d.Aa i).Ah.length,((gt d.Aa i).Ah.length:Int)):=by
  intro i hi pre hp
  have h5:=h.nx i hi
  have:=loopF (Lf:=qa7 (i:Int) (gt d.Aa i)) (S:=fun j=>pre++plX i (gt d.Aa i) j) (len:=(gt d.Aa i).Ah.length) (fin:=(pre++plX i (gt d.Aa i) (gt d.Aa i).Ah.length,((gt d.Aa i).Ah.length:Int))) (fun n=>by
    simp only [qa7,qj (je _),cond_false])
   (fun j hj X hX=>by
    have hc:(pre++plX i (gt d.Aa i) j).length+[(⟨(i:Int),(j:Int),at0 (gt d.Aa i).Ah j,decide (j+1=(gt d.Aa i).Ah.length)⟩:Tplace)].length≤2147483648:=by
     rw [jm,qmO];simp;omega
    simp only [qa7,qi hj,cond_true,qbQ hj,jd,lastE hj (show (gt d.Aa i).Ah.length≤1048576 by omega),qdV hc,jx,←qpp,wS j]
    exact hX)
  simpa [plX] using this
 have hL1:Ev (fun n=>qa6 d n ([]:List Tplace) 0) (plI d d.Aa.length,(d.Aa.length:Int)):=by
  refine loopF (Lf:=qa6 d) (S:=fun j=>plI d j) (len:=d.Aa.length) (fun n=>?_) (fun j hj X hX=>?_)
  ·simp only [qa6,qj (je _),cond_false]
  ·simp only [qa6,qi hj,cond_true,qN hj,jd,wS j]
   refine Ev.bind (hL2 j hj _ (by have:=qk8 h (Nat.le_of_lt hj);omega)) ?_
   rw [←qkf]
   exact hX
 have hL3:Ev (fun n=>qa8 d n (plI d d.Aa.length) 0) (places d,(d.Af.length:Int)):=by
  have:=loopF (Lf:=qa8 d) (S:=fun j=>plI d d.Aa.length++plP d j) (len:=d.Af.length) (fin:=(places d,(d.Af.length:Int))) (fun n=>by
    simp only [qa8,qj (je _),cond_false];rfl)
   (fun j hj X hX=>by
    have hc:(plI d d.Aa.length++plP d j).length+[(⟨-1,(j:Int),(gt d.Af j).Bp,(gt d.Af j).Bm==1⟩:Tplace)].length≤2147483648:=by
     rw [jm,qmS];have:=qk8 h (je _);simp;omega
    simp only [qa8,qi hj,cond_true,qN hj,jd,qdV hc,jx,←qpY,wS j]
    exact hX)
  simpa [plP] using this
 unfold qbv
 exact Ev.bind hL1 (Ev.bind hL3 .done)
theorem qkS {d:qc} (h:smallD d):Ev (fun n=>qd2 n d) ((places d).map toSp):=by
 have h1:=h.ni
 have h2:=h.np
 have hL2:∀ i,i<d.Aa.length→∀ pre:List Tplace,pre.length≤100→Ev (fun n=>qbK (i:Int) (gt d.Aa i) n (pre.map toSp) 0) ((pre++plX i (gt d.Aa i) (gt d.Aa i).Ah.length).map toSp,((gt d.Aa i).Ah.length:Int)):=by
  intro i hi pre hp
  have h5:=h.nx i hi
  have:=loopF (Lf:=qbK (i:Int) (gt d.Aa i)) (S:=fun j=>(pre++plX i (gt d.Aa i) j).map toSp) (len:=(gt d.Aa i).Ah.length) (fin:=((pre++plX i (gt d.Aa i) (gt d.Aa i).Ah.length).map toSp,((gt d.Aa i).Ah.length:Int))) (fun n=>by
    simp only [qbK,qj (je _),cond_false])
   (fun j hj X hX=>by
    have hc:((pre++plX i (gt d.Aa i) j).map toSp).length+[(⟨(i:Int),(j:Int),at0 (gt d.Aa i).Ah j,decide (j+1=(gt d.Aa i).Ah.length)⟩:Tl05Place)].length≤2147483648:=by
     rw [jE,jm,qmO];simp;omega
    simp only [qbK,qi hj,cond_true,qbQ hj,jd,lastE hj (show (gt d.Aa i).Ah.length≤1048576 by omega),qdV hc,wS j]
    rw [qpp,←jx,jK] at hX
    exact hX)
  simpa [plX] using this
 have hL1:Ev (fun n=>qbH d n ([]:List Tl05Place) 0) ((plI d d.Aa.length).map toSp,(d.Aa.length:Int)):=by
  refine loopF (Lf:=qbH d) (S:=fun j=>(plI d j).map toSp) (len:=d.Aa.length) (fun n=>?_) (fun j hj X hX=>?_)
  ·simp only [qbH,qj (je _),cond_false]
  ·simp only [qbH,qi hj,cond_true,qN hj,jd,wS j]
   refine Ev.bind (hL2 j hj _ (by have:=qk8 h (Nat.le_of_lt hj);omega)) ?_
   rw [←qkf]
   exact hX
 have hL3:Ev (fun n=>qbN d n ((plI d d.Aa.length).map toSp) 0) ((places d).map toSp,(d.Af.length:Int)):=by
  have:=loopF (Lf:=qbN d) (S:=fun j=>(plI d d.Aa.length++plP d j).map toSp) (len:=d.Af.length) (fin:=((places d).map toSp,(d.Af.length:Int))) (fun n=>by
    simp only [qbN,qj (je _),cond_false];rfl)
   (fun j hj X hX=>by
    have hc:((plI d d.Aa.length++plP d j).map toSp).length+[(⟨-1,(j:Int),(gt d.Af j).Bp,(gt d.Af j).Bm==1⟩:Tl05Place)].length≤2147483648:=by
     rw [jE,jm,qmS];have:=qk8 h (je _);simp;omega
    simp only [qbN,qi hj,cond_true,qN hj,jd,qdV hc,wS j]
    rw [qpY,←jx,jK] at hX
    exact hX)
  simpa [plP] using this
 unfold qd2
 exact Ev.bind hL1 (Ev.bind hL3 .done)
def snkQ (d:qc) (k:Int) (i:Nat):Bool:=((gt (places d) i).net==k)&&!(gt (places d) i).drives
def sinksL (d:qc) (k:Int) (j:Nat):List Int:=((List.range j).filter (snkQ d k)).map fun (i:Nat)=>(i:Int)
def snkN (d:qc) (k:Int):Nat:=cntP (snkQ d k) (places d).length
theorem qhj {d:qc} {k:Int} {j:Nat}:sinksL d k (j+1)=sinksL d k j++(bif snkQ d k j then [(j:Int)] else []):=by
 unfold sinksL
 rw [List.range_succ,List.filter_append,jK]
 congr 1
 cases h:snkQ d k j<;>simp [h]
theorem qgS {d:qc} {k:Int} {j:Nat}:(sinksL d k j).length=cntP (snkQ d k) j:=by
 induction j with
 | zero=>rfl
 | succ j ih =>
  rw [qhj,jm,ih]
  show _=cntP (snkQ d k) j+_
  congr 1
  cases snkQ d k j<;>rfl
theorem qqo {α β:Type} [Inhabited α] [Inhabited β] {xs:List α} {g:α→β} {j:Nat} (h:j<xs.length):gt (xs.map g) j=g (gt xs j):=by
 rw [qjD (by simpa using h),qjD h];simp
theorem qpM {d:qc} {k:Int} (h:smallD d):Ev (fun n=>qg7 n d k) (sinksL d k (places d).length):=by
 have hl:=qdQ h
 have hL:Ev (fun n=>qbD k ((places d).map toSp) n ([]:List Int) 0) (sinksL d k (places d).length,((places d).length:Int)):=by
  refine loopF (Lf:=qbD k ((places d).map toSp)) (S:=fun j=>sinksL d k j) (len:=(places d).length) (fun n=>?_) (fun j hj X hX=>?_)
  ·simp only [qbD,jE,qj (je _),cond_false]
  ·have hj':j<((places d).map toSp).length:=by simpa using hj
   have hc:(sinksL d k j).length+[(j:Int)].length≤2147483648:=by
    rw [qgS]
    have:cntP (snkQ d k) j≤j:=qe0
    simp;omega
   simp only [qbD,qi hj',cond_true,qN hj',qqo hj,jd,wS j]
   rw [show ∀ p:Tplace,(toSp p).net=p.net from fun _=>rfl,show ∀ p:Tplace,(toSp p).drives=p.drives from fun _=>rfl]
   refine Ev.bind (b:=snkQ d k j) (Ev.andP fun _=>.done) ?_
   rw [qhj] at hX
   cases hq:snkQ d k j
   ·rw [hq] at hX
    simp only [cond_false,List.append_nil] at hX ⊢
    exact hX
   ·rw [hq] at hX
    simp only [cond_true,qdV hc,jd] at hX ⊢
    exact hX
 unfold qg7
 exact Ev.bind (qkS h) (Ev.bind hL .done)
theorem qkT {l:qn} {d:qc} (h:designB l d=true) {i:Nat} (hi:i<(places d).length):0≤(gt (places d) i).net∧(gt (places d) i).net<d.Ah.length:=by
 unfold designB at h
 simp only [jf] at h
 obtain ⟨_,hI,hP,_⟩:=h
 rw [qhz,qap] at hI hP
 have hm:gt (places d) i ∈ places d:=by rw [qjD hi];exact js hi
 generalize gt (places d) i=p at hm
 unfold places at hm
 rcases List.mem_append.1 hm with hm|hm
 ·unfold plI at hm
  obtain ⟨i,hi,hm⟩:=List.mem_flatMap.1 hm
  unfold plX at hm
  obtain ⟨k,hk,rfl⟩:=List.mem_map.1 hm
  have:=hI i (List.mem_range.1 hi)
  unfold instB at this
  simp only [jf] at this
  have h3:=this.2.2
  rw [qhi (d:=0),qap] at h3
  have h4:=h3 k (List.mem_range.1 hk)
  unfold netB at h4
  rw [qbG] at h4
  show 0≤at0 _ _∧at0 _ _<_
  unfold at0
  omega
 ·unfold plP at hm
  obtain ⟨i,hi,rfl⟩:=List.mem_map.1 hm
  have:=hP i (List.mem_range.1 hi)
  unfold portB netB at this
  simp only [jf,qbG] at this
  show 0≤(gt d.Af i).Bp∧(gt d.Af i).Bp<_
  omega
def blockB (b:qk):Bool:=(designB b.Au b.Ab&&((b.Ac.length:Int)==(b.Ab.Ah.length:Int)))&&allN (fun j=>wireB (gt b.Ac j) (snkN b.Ab (j:Int))) b.Ac.length
theorem qqt {b:qk} (h:qjN b):Ev (fun n=>qhC n b) (blockB b):=by
 have hwl:=h.Ac.len
 unfold qhC blockB
 refine Ev.guardB (Ev.or (qpW h.Au h.Ab) fun _=>.done) fun hb=>?_
 rw [jf,beq_iff_eq] at hb
 obtain ⟨hd,hw⟩:=hb
 have hs:=qbs hd
 have hl:=qdQ hs
 have hn:=hs.nn
 rw [qko (m:=b.Ac.length) (by omega)]
 simp only [jd]
 have hL1:Ev (fun n=>qbZ (places b.Ab) n (vecC (fun _=>0) b.Ac.length) 0) (vecC (fun k=>snkN b.Ab (k:Int)) b.Ac.length,((places b.Ab).length:Int)):=by
  refine loopF (Lf:=qbZ (places b.Ab)) (S:=fun j=>vecC (fun k=>cntP (snkQ b.Ab (k:Int)) j) b.Ac.length) (len:=(places b.Ab).length) (fun n=>?_) (fun j hj X hX=>?_)
  ·simp only [qbZ,qj (je _),cond_false];rfl
  ·simp only [qbZ,qi hj,cond_true,qN hj,jd,wS j]
   obtain ⟨n0,n1⟩:=qkT hd hj
   cases h1:(gt (places b.Ab) j).drives
   ·have hc:cntP (snkQ b.Ab (((gt (places b.Ab) j).net.toNat:Nat):Int)) j≤j:=qe0
    obtain ⟨e1,e2⟩:=qi2 (c:=fun k=>cntP (snkQ b.Ab (k:Int)) j) (c':=fun k=>cntP (snkQ b.Ab (k:Int)) (j+1)) (x:=(gt (places b.Ab) j).net) (m:=b.Ac.length) n0 (by omega) (by show cntP _ _<_;omega) (fun k _=>by
     show cntP _ j+(bif snkQ b.Ab (k:Int) j then 1 else 0)=_
     unfold snkQ
     rw [h1,Bool.not_false,Bool.and_true])
    simp only [Bool.not_false,cond_true,jd,e1,e2]
    exact hX
   ·have:vecC (fun k=>cntP (snkQ b.Ab (k:Int)) (j+1)) b.Ac.length=vecC (fun k=>cntP (snkQ b.Ab (k:Int)) j) b.Ac.length:=by
     refine qip (fun k _=>?_)
     show cntP _ j+(bif snkQ b.Ab (k:Int) j then 1 else 0)=_
     unfold snkQ
     rw [h1,Bool.not_true,Bool.and_false];rfl
    rw [this] at hX
    exact hX
 have hL2:Ev (fun n=>qdx b (vecC (fun k=>snkN b.Ab (k:Int)) b.Ac.length) n 0) (bif allN (fun j=>wireB (gt b.Ac j) (snkN b.Ab (j:Int))) b.Ac.length then .nxt (b.Ac.length:Int) else .ret false):=by
  refine qde ?_ (fun j hj X hX=>Ev.succ ?_)
  ·exact Ev.succ (by simp only [qdx,qj (je _),cond_false];exact .done)
  ·simp only [qdx,qi hj,cond_true,qN hj,qh7 hj,jd,wS j]
   exact Ev.chk1 (qrj (qjL h.Ac hj)) fun _=>hX
 refine Ev.bind (qks hs) (Ev.bind hL1 (Ev.bind hL2 ?_))
 cases allN (fun j=>wireB (gt b.Ac j) (snkN b.Ab (j:Int))) b.Ac.length<;>exact .done
theorem qpq {b:qk} (h:qjN b):Ev (fun n=>qhE n b) (blockB b):=by
 have hwl:=h.Ac.len
 unfold qhE blockB
 refine Ev.guardB (Ev.or (qpc h.Au h.Ab) fun _=>.done) fun hb=>?_
 rw [jf] at hb
 have hs:=qbs hb.1
 have hL:Ev (fun n=>qdw b n 0) (bif allN (fun j=>wireB (gt b.Ac j) (snkN b.Ab (j:Int))) b.Ac.length then .nxt (b.Ac.length:Int) else .ret false):=by
  refine qde ?_ (fun j hj X hX=>Ev.succ ?_)
  ·exact Ev.succ (by simp only [qdw,qj (je _),cond_false];exact .done)
  ·simp only [qdw,qi hj,cond_true,qN hj,jd,wS j]
   refine Ev.bind (qpM hs) ?_
   rw [qgS]
   exact Ev.chk1 (qqK (qjL h.Ac hj)) fun _=>hX
 refine Ev.bind hL ?_
 cases allN (fun j=>wireB (gt b.Ac j) (snkN b.Ab (j:Int))) b.Ac.length<;>exact .done
end Go.Fw
