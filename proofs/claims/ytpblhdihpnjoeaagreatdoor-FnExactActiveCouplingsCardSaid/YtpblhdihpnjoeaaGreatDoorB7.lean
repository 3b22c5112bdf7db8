/- By a program of mine (gen.py): for each function a plain function and the proof that the code computes it. -/
import Derived.Test.YtpblhdihpnjoeaaGreatDoorA2
import Derived.Test.YtpblhdihpnjoeaaGreatDoorFw30
open Option renaming bind_some → jd
open Nat renaming le_refl → je, mul_le_mul_right → jn, le_of_ble_eq_true → jp, lt_of_lt_of_le → jr, succ_mul → jC, zero_add → jP, le_trans → jQ
open Bool renaming and_eq_true → jf, eq_iff_iff → jh, not_eq_true' → ju, true_and → jA
open Go.Result renaming andThen_ok → jg
open List renaming getElem?_eq_getElem → ji, length_append → jm, mem_cons_of_mem → jo, getElem?_append_left → jq, getElem_mem → js, mem_cons_self → jt, getElem?_take → jv, getElem?_append_right → jw, append_assoc → jx, getElem?_toArray → jz, eq_nil_of_length_eq_zero → jB, length_singleton → jD, length_map → jE, all_eq_true → jF, getElem_of_mem → jG, size_toArray → jH, getD_eq_getElem?_getD → jJ, map_append → jK, drop_eq_getElem_cons → jL, mem_of_getElem? → jM, not_mem_nil → jN, take_length → jO, mem_cons → jR
open Go.Sem renaming run_bind → jj, run_pure → jk
open Int renaming toNat_natCast → jy
open Array renaming getElem?_append_left → jI

namespace Go.Fw
open Go Go.Proofs
open Go.RowKit (Below)
set_option maxRecDepth 100000
set_option maxHeartbeats 1600000
variable {n:Nat} {w:World} {cs1 cs2 cs3 cs4 cs5 cs6 cs7 cs8 cs9:List Value}
def qcq (l:qn) (i1:Int):Nat→Int→Option (Flow Bool Int)
 | 0,_=>none
 | n+1,i2 =>
  bif decide (i2<i1) then
   (idx l.Ak i2).bind fun y2 =>
   (idx l.Ak i1).bind fun y3 =>
   bif (y2.Ar.toList==y3.Ar.toList) then some (.ret false) else
   qcq l i1 n (W64 (i2+1))
  else
   some (.nxt i2)
def qct (l:qn):Nat→Int→Option (Flow Bool Int)
 | 0,_=>none
 | n+1,i1 =>
  bif decide (i1<(l.Ak.length:Int)) then
   (idx l.Ak i1).bind fun y1 =>
   (qiQ n y1).bind fun r1 =>
   bif (!r1) then some (.ret false) else
   (qcq l i1 n 0).bind fun o=>match o with
   | .ret r=>some (.ret r)
   | .nxt _ =>
    qct l n (W64 (i1+1))
  else
   some (.nxt i1)
def qgz (n:Nat) (l:qn):Option Bool :=
 (qct l n 0).bind fun o=>match o with
 | .ret r=>some r
 | .nxt _ =>
  some (decide ((l.Ak.length:Int)≤8))
theorem qlp {l:qn} (ha1:GoT.R w (old w) l cs1) {r:Bool} (hF:qgz n l=some r):RetV Tryz.prog 208 [GoT.v qn cs1] w r:=by
 obtain ⟨p1,k1,rfl,s1⟩:=qbf ha1
 refine zV 41 Tryz.func208 rfl fun h=>zSR (qu h rfl rfl fun w1 bb1 h=>X0 7 rfl ?_)
 obtain ⟨o1,hF,hK1⟩:=qf hF
 refine ql (rL (fun m e w'=>∃ (i1:Int),qct l m i1=some o1∧e=[(1,.pointer (some ⟨bb1,0,none⟩)),(3,.int .i64 i1)]∧SH w w' [Ch.box bb1 [.slice p1 l.Ak.length k1] 41]) n ⟨_,hF,rfl,h⟩ rfl ?_)
 rintro m1 e1 w2 ⟨i1,hF,rfl,h⟩
 rcases m1 with _|m1
 ·cases hF
 refine X1 9 0 h rfl (qh rfl hF ?_ ?_)<;>intro hF
 ·refine X1 9 0 h rfl ?_
  obtain ⟨y1,hy1,hF,he1,b1,_,q1,cs2,hp1,hq1,hr1,hc2⟩:=s1.ix hF
  obtain ⟨p2,k2,p3,k3,p4,k4,rfl,s2,s3,s4⟩:=qU hr1
  refine zxe hp1 hq1 he1 rfl (zc 0 (hc2.below h.below) rfl (zcB h hF (qm9 (qh1 y1 (h.oldS s2) (h.oldS s3) (h.oldS s4))) rfl fun r1 w3 h hF=>X0 2 rfl (qh rfl hF ?_ ?_)))<;>intro hF
  ·refine X0 4 rfl ?_
   obtain rfl:=qa hF;replace hF:=hK1
   exact rb h hF rfl
  refine X0 5 rfl ?_
  obtain ⟨o2,hF,hK2⟩:=qf hF
  refine ql (rL (fun m e w'=>∃ (i2:Int),qcq l i1 m i2=some o2∧e=[(1,.pointer (some ⟨bb1,0,none⟩)),(3,.int .i64 i1),(4,.int .i64 i2)]∧SH w w' [Ch.box bb1 [.slice p1 l.Ak.length k1] 41]) m1 ⟨_,hF,rfl,h⟩ rfl ?_)
  rintro m2 e2 w4 ⟨i2,hF,rfl,h⟩
  rcases m2 with _|m2
  ·cases hF
  refine X0 7 rfl (qh rfl hF ?_ ?_)<;>intro hF
  ·refine X0 4 rfl (rD (Y1 2 0 h rfl ?_))
   refine zd1 rfl ?_
   obtain ⟨y2,hy2,hF,he2,b2,_,q2,cs3,hp2,hq2,hr3,hc5⟩:=s1.ix hF
   obtain ⟨p5,k5,p6,k6,p7,k7,rfl,s5,s6,s7⟩:=qU hr3
   refine zdxe hp2 hq2 he2 rfl (zd1 rfl (zdc 0 (hc5.below h.below) rfl (Y1 2 0 h rfl ?_)))
   refine zd1 rfl ?_
   obtain ⟨y3,hy3,hF,he3,b3,_,q3,cs4,hp3,hq3,hr4,hc6⟩:=s1.ix hF
   obtain ⟨p8,k8,p9,k9,p10,k10,rfl,s8,s9,s10⟩:=qU hr4
   refine zdxe hp3 hq3 he3 rfl (zd1 rfl (zdc 0 (hc6.below h.below) rfl (zd1 rfl (dN h fun w5 h=>qh rfl hF ?_ ?_))))<;>intro hF
   ·refine X0 4 rfl ?_
    obtain rfl:=qa hF;replace hF:=hK2
    obtain rfl:=qa hF;replace hF:=hK1
    exact rb h hF rfl
   exact X0 7 rfl (rK ⟨_,hF,rfl,h⟩ rfl)
  refine qr rfl ?_
  obtain rfl:=qa hF;replace hF:=hK2
  exact X0 6 rfl (rK ⟨_,hF,rfl,h⟩ rfl)
 refine qr rfl ?_
 obtain rfl:=qa hF;replace hF:=hK1
 exact X1 8 0 h rfl (rb h hF rfl)
def qc1 (a_1:qc) (y1:qd):Nat→Int→Option (Flow Bool Int)
 | 0,_=>none
 | n+1,i2 =>
  bif decide (i2<(y1.Ah.length:Int)) then
   (idx y1.Ah i2).bind fun y2 =>
   (qX n y2 0 (W64 ((a_1.Ah.length:Int)-1))).bind fun r1 =>
   bif (!r1) then some (.ret false) else
   qc1 a_1 y1 n (W64 (i2+1))
  else
   some (.nxt i2)
def qc0 (a_1:qc):Nat→Int→Option (Flow Bool Int)
 | 0,_=>none
 | n+1,i3 =>
  bif decide (i3<(a_1.Af.length:Int)) then
   (idx a_1.Af i3).bind fun y4 =>
   (qX n y4.Bm 1 2).bind fun r3 =>
   bif (!r3) then some (.ret false) else
   (idx a_1.Af i3).bind fun y5 =>
   (qX n y5.Bo 0 (W64 ((a_1.Ah.length:Int)-1))).bind fun r4 =>
   bif (!r4) then some (.ret false) else
   qc0 a_1 n (W64 (i3+1))
  else
   some (.nxt i3)
def qc8 (a_0:qn) (a_1:qc):Nat→Int→Option (Flow Bool Int)
 | 0,_=>none
 | n+1,i1 =>
  bif decide (i1<(a_1.Aa.length:Int)) then
   (idx a_1.Aa i1).bind fun y1 =>
   (
    (qX n y1.Bl 0 (W64 ((a_0.Ak.length:Int)-1))).bind fun r2 =>
    bif (!r2) then some true else
    (idx a_0.Ak y1.Bl).bind fun y3 =>
    some ((y1.Ah.length:Int) != (y3.Am.length:Int))).bind fun b2 =>
   bif b2 then some (.ret false) else
   (qc1 a_1 y1 n 0).bind fun o=>match o with
   | .ret r=>some (.ret r)
   | .nxt _ =>
    qc8 a_0 a_1 n (W64 (i1+1))
  else
   some (.nxt i1)
def qgX (n:Nat) (a_0:qn) (a_1:qc):Option Bool :=
 (qc8 a_0 a_1 n 0).bind fun o=>match o with
 | .ret r=>some r
 | .nxt _ =>
  (qc0 a_1 n 0).bind fun o=>match o with
  | .ret r=>some r
  | .nxt _ =>
   some true
theorem qlZ {a_0:qn} {a_1:qc} (ha1:GoT.R w (old w) a_0 cs1) (ha2:GoT.R w (old w) a_1 cs2) {r:Bool} (hF:qgX n a_0 a_1=some r):RetV Tryz.prog 209 [GoT.v qn cs1,GoT.v qc cs2] w r:=by
 obtain ⟨p1,k1,rfl,s1⟩:=qbf ha1
 obtain ⟨p2,k2,p3,k3,p4,k4,rfl,s2,s3,s4⟩:=qae ha2
 refine zV 90 Tryz.func209 rfl fun h=>zSR (qu h rfl rfl fun w1 bb1 h=>qu h rfl rfl fun w2 bb2 h=>X1 14 0 h rfl ?_)
 obtain ⟨o1,hF,hK1⟩:=qf hF
 refine ql (rL (fun m e w'=>∃ (i1:Int),qc8 a_0 a_1 m i1=some o1∧e=[(2,.pointer (some ⟨bb1,0,none⟩)),(3,.pointer (some ⟨bb2,0,none⟩)),(5,.int .i64 (a_1.Ah.length:Int)),(6,.int .i64 i1)]∧SH w w' [Ch.box bb2 (qaQ a_1 p2 p3 p4 k2 k3 k4) 45,Ch.box bb1 [.slice p1 a_0.Ak.length k1] 41]) n ⟨_,hF,rfl,h⟩ rfl ?_)
 rintro m1 e1 w3 ⟨i1,hF,rfl,h⟩
 rcases m1 with _|m1
 ·cases hF
 refine X1 9 0 h rfl (qh rfl hF ?_ ?_)<;>intro hF
 ·refine X1 8 0 h rfl ?_
  obtain ⟨y1,hy1,hF,he1,b1,_,q1,cs3,hp1,hq1,hr1,hc2⟩:=s2.ix hF
  obtain ⟨p5,k5,rfl,s5⟩:=qM hr1
  refine zxe hp1 hq1 he1 rfl (zc 0 (hc2.below h.below) rfl (qx qb h rfl rfl rfl fun w4 bb3 h=>zs 0 h rfl fun w5 h=>zNSS ?_))
  obtain ⟨KF1,hKF1,o3,hF,hK3⟩:=bindE hF
  refine qcu (fun e w'=>∃ (b2:Bool),KF1 b2=some o1∧e=[(2,.pointer (some ⟨bb1,0,none⟩)),(3,.pointer (some ⟨bb2,0,none⟩)),(5,.int .i64 (a_1.Ah.length:Int)),(6,.int .i64 i1),(7,.pointer (some ⟨bb3,0,none⟩)),(46,.bool b2)]∧SH w w' [Ch.box bb3 (qha y1 p5 k5) 184,Ch.box bb2 (qaQ a_1 p2 p3 p4 k2 k3 k4) 45,Ch.box bb1 [.slice p1 a_0.Ak.length k1] 41]) ?_ ?_
  ·refine rD (Y1 2 0 h rfl ?_)
   refine Y1 2 2 h rfl ?_
   refine zd2 rfl ?_
   obtain ⟨r2,hr4,hF⟩:=qf hF
   refine qbF r2 (vsB _) (cB 73 rfl) (fun _ hb=>qP  hr4) rfl rfl rfl rfl (zd2 rfl (qba (t:=33) hF rfl ?_ ?_))<;>intro hF
   ·refine Y0 13 rfl (dN h fun w8 h=>?_)
    obtain rfl:=qa hF
    exact rG ⟨_,hK3,rfl,h⟩ rfl
   refine Y1 4 0 h rfl ?_
   refine Y1 6 2 h rfl ?_
   refine Y1 4 0 h rfl ?_
   refine Y0 1 rfl ?_
   obtain ⟨y3,hy3,hF,he3,b4,_,q3,cs5,hp3,hq3,hr5,hc7⟩:=s1.ix hF
   obtain ⟨p6,k6,p7,k7,p8,k8,rfl,s6,s7,s8⟩:=qU hr5
   refine zdxe hp3 hq3 he3 rfl (Y0 3 rfl (zdc 2 (hc7.below h.below) rfl (Y0 5 rfl (dN h fun w9 h=>?_))))
   obtain rfl:=qa hF
   exact rG ⟨_,hK3,rfl,h⟩ rfl
  rintro e3 w10 ⟨b2,hF,rfl,h⟩
  subst hKF1
  refine qh rfl hF ?_ ?_<;>intro hF
  ·refine X0 4 rfl ?_
   obtain rfl:=qa hF;replace hF:=hK1
   exact rb h hF rfl
  refine X0 5 rfl ?_
  obtain ⟨o2,hF,hK2⟩:=qf hF
  refine ql (rL (fun m e w'=>∃ (i2:Int),qc1 a_1 y1 m i2=some o2∧e=[(2,.pointer (some ⟨bb1,0,none⟩)),(3,.pointer (some ⟨bb2,0,none⟩)),(5,.int .i64 (a_1.Ah.length:Int)),(6,.int .i64 i1),(7,.pointer (some ⟨bb3,0,none⟩)),(8,.int .i64 i2)]∧SH w w' [Ch.box bb3 (qha y1 p5 k5) 184,Ch.box bb2 (qaQ a_1 p2 p3 p4 k2 k3 k4) 45,Ch.box bb1 [.slice p1 a_0.Ak.length k1] 41]) m1 ⟨_,hF,rfl,h⟩ rfl ?_)
  rintro m2 e2 w6 ⟨i2,hF,rfl,h⟩
  rcases m2 with _|m2
  ·cases hF
  refine X1 9 0 h rfl (qh rfl hF ?_ ?_)<;>intro hF
  ·refine X1 8 0 h rfl ?_
   obtain ⟨y2,hy2,hF,he2,b3,_,q2,cs4,hp2,hq2,rfl,hc5⟩:=s5.ix hF
   refine zxe hp2 hq2 he2 rfl (zc 0 (hc5.below h.below) rfl (zp2 rfl (zcB h hF qP rfl fun r1 w7 h hF=>X0 2 rfl (qh rfl hF ?_ ?_))))<;>intro hF
   ·refine X0 4 rfl ?_
    obtain rfl:=qa hF;replace hF:=hK2
    obtain rfl:=qa hF;replace hF:=hK1
    exact rb h hF rfl
   exact X0 7 rfl (rK ⟨_,hF,rfl,h⟩ rfl)
  refine qr rfl ?_
  obtain rfl:=qa hF;replace hF:=hK2
  refine X0 6 rfl ?_
  replace h:=h.pick [1,2] rfl
  exact rK ⟨_,hF,rfl,h⟩ rfl
 refine qr rfl ?_
 obtain rfl:=qa hF;replace hF:=hK1
 refine X0 5 rfl ?_
 obtain ⟨o4,hF,hK4⟩:=qf hF
 refine ql ?_
 replace h:=h.pick [0] rfl
 refine rL (fun m e w'=>∃ (i3:Int),qc0 a_1 m i3=some o4∧e=[(3,.pointer (some ⟨bb2,0,none⟩)),(5,.int .i64 (a_1.Ah.length:Int)),(9,.int .i64 i3)]∧SH w w' [Ch.box bb2 (qaQ a_1 p2 p3 p4 k2 k3 k4) 45]) n ⟨_,hF,rfl,h⟩ rfl ?_
 rintro m3 e4 w11 ⟨i3,hF,rfl,h⟩
 rcases m3 with _|m3
 ·cases hF
 refine X1 9 0 h rfl (qh rfl hF ?_ ?_)<;>intro hF
 ·refine X1 8 0 h rfl ?_
  obtain ⟨y4,hy4,hF,he4,b5,_,q4,cs6,hp4,hq4,hr6,hc9⟩:=s4.ix hF
  obtain rfl:=qak hr6
  refine zxe hp4 hq4 he4 rfl (zp1 rfl (zc 1 (hc9.below h.below) rfl (zcB h hF qP rfl fun r3 w12 h hF=>zp2 rfl (qg (t:=78) hF rfl ?_ ?_))))<;>intro hF
  ·refine X0 12 rfl (qb2 rfl rfl (X0 4 rfl ?_))
   obtain rfl:=qa hF;replace hF:=hK4
   exact rb h hF rfl
  refine X1 7 0 h rfl ?_
  obtain ⟨y5,hy5,hF,he5,b6,_,q5,cs7,hp5,hq5,hr8,hc10⟩:=s4.ix hF
  obtain rfl:=qak hr8
  refine zxe hp5 hq5 he5 rfl (X0 3 rfl (zc 2 (hc10.below h.below) rfl (X0 5 rfl (zcB h hF qP rfl fun r4 w13 h hF=>X0 4 rfl (qh rfl hF ?_ ?_)))))<;>intro hF
  ·refine X0 4 rfl ?_
   obtain rfl:=qa hF;replace hF:=hK4
   exact rb h hF rfl
  exact X0 7 rfl (rK ⟨_,hF,rfl,h⟩ rfl)
 refine qr rfl ?_
 obtain rfl:=qa hF;replace hF:=hK4
 exact X0 4 rfl (rb h hF rfl)
def qda (list:(List ByteArray)) (i1:Int):Nat→Int→Option (Flow Bool Int)
 | 0,_=>none
 | n+1,i2 =>
  bif decide (i2<i1) then
   (idx list i2).bind fun y2 =>
   (idx list i1).bind fun y3 =>
   bif (y2.toList==y3.toList) then some (.ret false) else
   qda list i1 n (W64 (i2+1))
  else
   some (.nxt i2)
def qdd (list:(List ByteArray)):Nat→Int→Option (Flow Bool Int)
 | 0,_=>none
 | n+1,i1 =>
  bif decide (i1<(list.length:Int)) then
   (idx list i1).bind fun y1 =>
   (qft n y1).bind fun r1 =>
   bif (!r1) then some (.ret false) else
   (qda list i1 n 0).bind fun o=>match o with
   | .ret r=>some (.ret r)
   | .nxt _ =>
    qdd list n (W64 (i1+1))
  else
   some (.nxt i1)
def qeQ (n:Nat) (list:(List ByteArray)):Option Bool :=
 (qdd list n 0).bind fun o=>match o with
 | .ret r=>some r
 | .nxt _ =>
  some true
theorem qgR {list:(List ByteArray)} (ha1:GoT.R w (old w) list cs1) {r:Bool} (hF:qeQ n list=some r):RetV Tryz.prog 210 [GoT.v (List ByteArray) cs1] w r:=by
 obtain ⟨p1,k1,rfl,s1⟩:=ha1
 refine zV 31 Tryz.func210 rfl fun h=>X0 9 rfl ?_
 obtain ⟨o1,hF,hK1⟩:=qf hF
 refine ql (rL (fun m e w'=>∃ (i1:Int),qdd list m i1=some o1∧e=[(0,.slice p1 list.length k1),(3,.int .i64 i1)]∧SH w w' []) n ⟨_,hF,rfl,h⟩ rfl ?_)
 rintro m1 e1 w1 ⟨i1,hF,rfl,h⟩
 rcases m1 with _|m1
 ·cases hF
 refine X0 8 rfl (qh rfl hF ?_ ?_)<;>intro hF
 ·refine X0 8 rfl ?_
  obtain ⟨y1,hy1,hF,he1,b1,_,q1,cs2,hp1,hq1,rfl,hc2⟩:=s1.ix hF
  refine zxe hp1 hq1 he1 rfl (zc 0 (hc2.below h.below) rfl (zcB h hF qhz rfl fun r1 w2 h hF=>X0 2 rfl (qh rfl hF ?_ ?_)))<;>intro hF
  ·refine X0 4 rfl ?_
   obtain rfl:=qa hF;replace hF:=hK1
   exact rb h hF rfl
  refine X0 5 rfl ?_
  obtain ⟨o2,hF,hK2⟩:=qf hF
  refine ql (rL (fun m e w'=>∃ (i2:Int),qda list i1 m i2=some o2∧e=[(0,.slice p1 list.length k1),(3,.int .i64 i1),(4,.int .i64 i2)]∧SH w w' []) m1 ⟨_,hF,rfl,h⟩ rfl ?_)
  rintro m2 e2 w3 ⟨i2,hF,rfl,h⟩
  rcases m2 with _|m2
  ·cases hF
  refine X0 7 rfl (qh rfl hF ?_ ?_)<;>intro hF
  ·refine X0 4 rfl (rD (zd2 rfl ?_))
   obtain ⟨y2,hy2,hF,he2,b2,_,q2,cs3,hp2,hq2,rfl,hc5⟩:=s1.ix hF
   refine zdxe hp2 hq2 he2 rfl (zdc 0 (hc5.below h.below) rfl (zd2 rfl ?_))
   obtain ⟨y3,hy3,hF,he3,b3,_,q3,cs4,hp3,hq3,rfl,hc6⟩:=s1.ix hF
   refine zdxe hp3 hq3 he3 rfl (zdc 0 (hc6.below h.below) rfl (zd1 rfl (dN h fun w4 h=>qh rfl hF ?_ ?_)))<;>intro hF
   ·refine X0 4 rfl ?_
    obtain rfl:=qa hF;replace hF:=hK2
    obtain rfl:=qa hF;replace hF:=hK1
    exact rb h hF rfl
   exact X0 7 rfl (rK ⟨_,hF,rfl,h⟩ rfl)
  refine qr rfl ?_
  obtain rfl:=qa hF;replace hF:=hK2
  exact X0 6 rfl (rK ⟨_,hF,rfl,h⟩ rfl)
 refine qr rfl ?_
 obtain rfl:=qa hF;replace hF:=hK1
 exact X0 4 rfl (rb h hF rfl)
def qc9 (x5:(List Int)) (x7:(List Int)):Nat→Int→Option (Flow Bool Int)
 | 0,_=>none
 | n+1,i5 =>
  bif decide (i5<(x5.length:Int)) then
   (idx x7 i5).bind fun y11 =>
   bif (y11 != 1) then some (.ret false) else
   qc9 x5 x7 n (W64 (i5+1))
  else
   some (.nxt i5)
def qbB (a_1:qc):Nat→(List Int)→Int→Option ((List Int) × Int)
 | 0,_,_=>none
 | n+1,x7,i4 =>
  bif decide (i4<(a_1.Af.length:Int)) then
   (idx a_1.Af i4).bind fun y7 =>
   bif (y7.Bm==1) then
    (idx a_1.Af i4).bind fun y8 =>
    (idx x7 y8.Bo).bind fun y9 =>
    (idx x7 y8.Bo).bind fun _ =>
    qbB a_1 n (setS x7 y8.Bo (W64 (y9+1))) (W64 (i4+1))
   else
    qbB a_1 n x7 (W64 (i4+1))
  else
   some (x7,i4)
def qb5 (a_1:qc):Nat→(List Int)→Int→Option ((List Int) × Int)
 | 0,_,_=>none
 | n+1,x6,i3 =>
  bif decide (i3<(a_1.Aa.length:Int)) then
   (idx a_1.Aa i3).bind fun y3 =>
   (idx y3.Ah (W64 ((y3.Ah.length:Int)-1))).bind fun y4 =>
   (idx x6 y4).bind fun y5 =>
   (idx x6 y4).bind fun _ =>
   qb5 a_1 n (setS x6 y4 (W64 (y5+1))) (W64 (i3+1))
  else
   some (x6,i3)
def qb7 (a_1:qc):Nat→(List ByteArray)→Int→Option ((List ByteArray) × Int)
 | 0,_,_=>none
 | n+1,x3,i2 =>
  bif decide (i2<(a_1.Af.length:Int)) then
   (idx a_1.Af i2).bind fun y2 =>
   (appS x3 ([y2.Ar]:List ByteArray)).bind fun x4 =>
   qb7 a_1 n x4 (W64 (i2+1))
  else
   some (x3,i2)
def qb6 (a_1:qc):Nat→(List ByteArray)→Int→Option ((List ByteArray) × Int)
 | 0,_,_=>none
 | n+1,x1,i1 =>
  bif decide (i1<(a_1.Aa.length:Int)) then
   (idx a_1.Aa i1).bind fun y1 =>
   (appS x1 ([y1.Ar]:List ByteArray)).bind fun x2 =>
   qb6 a_1 n x2 (W64 (i1+1))
  else
   some (x1,i1)
def qg0 (n:Nat) (a_0:qn) (a_1:qc):Option Bool :=
 (
  (qgz n a_0).bind fun r4 =>
  bif (!r4) then some true else
  bif decide ((a_1.Aa.length:Int) > 14) then some true else
  bif decide ((a_1.Ah.length:Int) > 30) then some true else
  bif decide ((a_1.Af.length:Int) > 8) then some true else
  (qgX n a_0 a_1).bind fun r5 =>
  some (!r5)).bind fun b1 =>
 bif b1 then some false else
 (qb6 a_1 n ([]:List ByteArray) 0).bind fun o=>match o with
 | (x1,_) =>
  (qb7 a_1 n ([]:List ByteArray) 0).bind fun o=>match o with
  | (x3,_) =>
   (
    (qeQ n x1).bind fun r1 =>
    bif (!r1) then some true else
    (qeQ n x3).bind fun r2 =>
    bif (!r2) then some true else
    (qeQ n a_1.Ah).bind fun r3 =>
    some (!r3)).bind fun b4 =>
   bif b4 then some false else
   (mkS (a_1.Ah.length:Int) (0:Int)).bind fun x5 =>
   (qb5 a_1 n x5 0).bind fun o=>match o with
   | (x6,_) =>
    (qbB a_1 n x6 0).bind fun o=>match o with
    | (x7,_) =>
     (qc9 x5 x7 n 0).bind fun o=>match o with
     | .ret r=>some r
     | .nxt _ =>
      some true
theorem qlL {a_0:qn} {a_1:qc} (ha1:GoT.R w (old w) a_0 cs1) (ha2:GoT.R w (old w) a_1 cs2) {r:Bool} (hF:qg0 n a_0 a_1=some r):RetV Tryz.prog 131 [GoT.v qn cs1,GoT.v qc cs2] w r:=by
 obtain ⟨p1,k1,rfl,s1⟩:=qbf ha1
 obtain ⟨p2,k2,p3,k3,p4,k4,rfl,s2,s3,s4⟩:=qae ha2
 refine zV 153 Tryz.func131 rfl fun h=>zSR (qu h rfl rfl fun w1 bb1 h=>qu h rfl rfl fun w2 bb2 h=>X0 4 rfl ?_)
 obtain ⟨KF2,hKF2,o7,hF,hK7⟩:=bindE hF
 refine qcu (fun e w'=>∃ (b1:Bool),KF2 b1=some r∧e=[(3,.pointer (some ⟨bb2,0,none⟩)),(40,.bool b1)]∧SH w w' [Ch.box bb2 (qaQ a_1 p2 p3 p4 k2 k3 k4) 45]) ?_ ?_
 ·refine X1 2 1 h rfl (zcB h hF (qlp (h.old ha1)) rfl fun r4 w21 h hF=>zp2 rfl (qg (t:=17) hF rfl ?_ ?_))<;>intro hF
  ·refine X0 24 rfl ?_
   replace h:=h.pick [0] rfl
   obtain rfl:=qa hF
   exact rG ⟨_,hK7,rfl,h⟩ rfl
  refine X1 10 0 h rfl (qg (t:=23) hF rfl ?_ ?_)<;>intro hF
  ·refine X0 18 rfl ?_
   replace h:=h.pick [0] rfl
   obtain rfl:=qa hF
   exact rG ⟨_,hK7,rfl,h⟩ rfl
  refine X1 10 0 h rfl (qg (t:=29) hF rfl ?_ ?_)<;>intro hF
  ·refine X0 12 rfl ?_
   replace h:=h.pick [0] rfl
   obtain rfl:=qa hF
   exact rG ⟨_,hK7,rfl,h⟩ rfl
  refine X1 10 0 h rfl (qg (t:=35) hF rfl ?_ ?_)<;>intro hF
  ·refine X0 6 rfl ?_
   replace h:=h.pick [0] rfl
   obtain rfl:=qa hF
   exact rG ⟨_,hK7,rfl,h⟩ rfl
  refine X2 5 1 0 h rfl (zcB h hF (qlZ (h.old ha1) (h.old ha2)) rfl fun r5 w22 h hF=>X0 4 rfl ?_)
  replace h:=h.pick [0] rfl
  obtain rfl:=qa hF
  exact rG ⟨_,hK7,rfl,h⟩ rfl
 rintro e7 w23 ⟨b1,hF,rfl,h⟩
 subst hKF2
 refine qh rfl hF ?_ ?_<;>intro hF
 ·exact X0 4 rfl (rb h hF rfl)
 refine zKSR (qab qb [] _ ([]:List ByteArray) h rfl rfl rfl rfl rfl rfl rfl rfl rfl trivial rfl fun w3 p5 S1 h=>X0 7 rfl ?_)
 obtain ⟨o1,hF,hK1⟩:=qf hF
 refine ql (rL (fun m e w'=>∃ (S2:Nat→Prop) (p6:Option Addr) (ln1:Nat) (k5:Nat) (x1:(List ByteArray)) (i1:Int),qb6 a_1 m x1 i1=some o1∧e=[(3,.pointer (some ⟨bb2,0,none⟩)),(5,.slice p6 ln1 k5),(6,.int .i64 i1)]∧SH w w' [Ch.own S2 (x1:List ByteArray) [.slice p6 ln1 k5],Ch.box bb2 (qaQ a_1 p2 p3 p4 k2 k3 k4) 45]) n ⟨_,_,_,_,_,_,hF,rfl,h⟩ rfl ?_)
 rintro m1 e1 w4 ⟨S2,p6,ln1,k5,x1,i1,hF,rfl,h⟩
 obtain rfl:=(h.sl 0 rfl).2
 rcases m1 with _|m1
 ·cases hF
 refine X1 9 1 h rfl (qh rfl hF ?_ ?_)<;>intro hF
 ·refine X1 8 1 h rfl ?_
  obtain ⟨y1,hy1,hF,he1,b2,_,q1,cs3,hp1,hq1,hr1,hc3⟩:=s2.ix hF
  obtain ⟨p7,k6,rfl,s5⟩:=qM hr1
  refine zxe hp1 hq1 he1 rfl (zp1 rfl (zc 0 (hc3.below h.below) rfl (qab qb [.tmp 55] _ ([y1.Ar]:List ByteArray) h rfl rfl rfl rfl rfl rfl rfl rfl rfl ⟨rfl,trivial⟩ rfl fun w5 p8 S3 h=>?_)))
  obtain ⟨x2,hx1,hF⟩:=qf hF
  obtain ⟨g1,hx1⟩:=qaY hx1
  refine qei qb 1 h rfl (h.sl 0 rfl).1 (h.sl 0 rfl).2 rfl rfl rfl rfl rfl rfl rfl rfl rfl g1 hx1 rfl fun w6 p9 k7 S4 h=>X0 8 rfl ?_
  replace h:=h.pick [1,2] rfl
  exact rK ⟨_,_,_,_,_,_,hF,rfl,h⟩ rfl
 refine qr rfl ?_
 obtain rfl:=qa hF;replace hF:=hK1
 refine zSR (qab qb [] _ ([]:List ByteArray) h rfl rfl rfl rfl rfl rfl rfl rfl rfl trivial rfl fun w7 p10 S5 h=>X0 7 rfl ?_)
 obtain ⟨o2,hF,hK2⟩:=qf hF
 refine ql (rL (fun m e w'=>∃ (S6:Nat→Prop) (p11:Option Addr) (ln2:Nat) (k8:Nat) (x3:(List ByteArray)) (i2:Int),qb7 a_1 m x3 i2=some o2∧e=[(3,.pointer (some ⟨bb2,0,none⟩)),(5,.slice p6 x1.length k5),(7,.slice p11 ln2 k8),(8,.int .i64 i2)]∧SH w w' [Ch.own S6 (x3:List ByteArray) [.slice p11 ln2 k8],Ch.own S2 (x1:List ByteArray) [.slice p6 x1.length k5],Ch.box bb2 (qaQ a_1 p2 p3 p4 k2 k3 k4) 45]) n ⟨_,_,_,_,_,_,hF,rfl,h⟩ rfl ?_)
 rintro m2 e2 w8 ⟨S6,p11,ln2,k8,x3,i2,hF,rfl,h⟩
 obtain rfl:=(h.sl 0 rfl).2
 rcases m2 with _|m2
 ·cases hF
 refine X1 9 2 h rfl (qh rfl hF ?_ ?_)<;>intro hF
 ·refine X1 8 2 h rfl ?_
  obtain ⟨y2,hy2,hF,he2,b3,_,q2,cs4,hp2,hq2,hr2,hc5⟩:=s4.ix hF
  obtain rfl:=qak hr2
  refine zxe hp2 hq2 he2 rfl (zp1 rfl (zc 0 (hc5.below h.below) rfl (qab qb [.tmp 72] _ ([y2.Ar]:List ByteArray) h rfl rfl rfl rfl rfl rfl rfl rfl rfl ⟨rfl,trivial⟩ rfl fun w9 p12 S7 h=>?_)))
  obtain ⟨x4,hx2,hF⟩:=qf hF
  obtain ⟨g2,hx2⟩:=qaY hx2
  refine qei qb 1 h rfl (h.sl 0 rfl).1 (h.sl 0 rfl).2 rfl rfl rfl rfl rfl rfl rfl rfl rfl g2 hx2 rfl fun w10 p13 k9 S8 h=>X0 8 rfl ?_
  replace h:=h.pick [1,2,3] rfl
  exact rK ⟨_,_,_,_,_,_,hF,rfl,h⟩ rfl
 refine qr rfl ?_
 obtain rfl:=qa hF;replace hF:=hK2
 refine zSS ?_
 obtain ⟨KF1,hKF1,o6,hF,hK6⟩:=bindE hF
 refine qcu (fun e w'=>∃ (b4:Bool),KF1 b4=some r∧e=[(3,.pointer (some ⟨bb2,0,none⟩)),(88,.bool b4)]∧SH w w' [Ch.box bb2 (qaQ a_1 p2 p3 p4 k2 k3 k4) 45]) ?_ ?_
 ·refine X0 2 rfl (zcB h hF (qgR (h.own 1 rfl)) rfl fun r1 w17 h hF=>zp2 rfl (qg (t:=78) hF rfl ?_ ?_))<;>intro hF
  ·refine X0 11 rfl ?_
   replace h:=h.pick [2] rfl
   obtain rfl:=qa hF
   exact rG ⟨_,hK6,rfl,h⟩ rfl
  refine X0 3 rfl (zcB h hF (qgR (h.own 0 rfl)) rfl fun r2 w18 h hF=>X0 4 rfl (qg (t:=83) hF rfl ?_ ?_))<;>intro hF
  ·refine X0 6 rfl ?_
   replace h:=h.pick [2] rfl
   obtain rfl:=qa hF
   exact rG ⟨_,hK6,rfl,h⟩ rfl
  refine X1 5 2 h rfl (zcB h hF (qgR ⟨_,_,rfl,(h.oldS s3)⟩) rfl fun r3 w19 h hF=>X0 4 rfl ?_)
  replace h:=h.pick [2] rfl
  obtain rfl:=qa hF
  exact rG ⟨_,hK6,rfl,h⟩ rfl
 rintro e6 w20 ⟨b4,hF,rfl,h⟩
 subst hKF1
 refine qh rfl hF ?_ ?_<;>intro hF
 ·exact X0 4 rfl (rb h hF rfl)
 refine X1 6 0 h rfl ?_
 obtain ⟨x5,hx3,hF⟩:=qf hF
 obtain ⟨g3,g4,hx3⟩:=qbH hx3
 refine qcR qb Int h rfl rfl rfl rfl rfl rfl rfl rfl rfl g3 g4 hx3 rfl fun w11 S9 p14 h=>X0 7 rfl ?_
 obtain ⟨o3,hF,hK3⟩:=qf hF
 refine ql (rL (fun m e w'=>∃ (x6:(List Int)) (i3:Int),qb5 a_1 m x6 i3=some o3∧e=[(3,.pointer (some ⟨bb2,0,none⟩)),(9,.slice p14 x5.length x5.length),(10,.int .i64 i3)]∧SH w w' [Ch.own S9 (x6:List Int) [.slice p14 x5.length x5.length],Ch.box bb2 (qaQ a_1 p2 p3 p4 k2 k3 k4) 45]) n ⟨_,_,hF,rfl,h⟩ rfl ?_)
 rintro m3 e3 w12 ⟨x6,i3,hF,rfl,h⟩
 rcases m3 with _|m3
 ·cases hF
 refine X1 9 1 h rfl (qh rfl hF ?_ ?_)<;>intro hF
 ·refine X1 8 1 h rfl ?_
  obtain ⟨y3,hy3,hF,he3,b5,_,q3,cs5,hp3,hq3,hr3,hc8⟩:=s2.ix hF
  obtain ⟨p15,k10,rfl,s6⟩:=qM hr3
  refine zxe hp3 hq3 he3 rfl (zp1 rfl (zc 2 (hc8.below h.below) rfl (X0 8 rfl ?_)))
  obtain ⟨y4,hy4,hF,he4,b6,_,q4,cs6,hp4,hq4,rfl,hc9⟩:=s6.ix hF
  refine zxe hp4 hq4 he4 rfl (zc 0 (hc9.below h.below) rfl ?_)
  obtain ⟨y5,hy5,hF,he5,b7,_,q5,cs7,hp5,hq5,rfl,hc10⟩:=(h.sl 0 rfl).1.ix hF
  refine zx hp5 hq5 ⟨he5.1,qJ he5.2.1 (h.sl 0 rfl).2⟩ rfl (zc 0 hc10 rfl (zp1 rfl ?_))
  obtain ⟨y6,hy6,hF,he6,b8,_,q6,cs8,hp6,hq6,rfl,hc11⟩:=(h.sl 0 rfl).1.ix hF
  exact zx hp6 hq6 ⟨he6.1,qJ he6.2.1 (h.sl 0 rfl).2⟩ rfl (qaS qb 0 0 (W64 (y5+1)) h rfl hy6 hp6 hq6 rfl hc11 rfl rfl rfl rfl rfl rfl rfl fun w13 h=>X0 7 rfl (rK ⟨_,_,hF,rfl,h⟩ rfl))
 refine qr rfl ?_
 obtain rfl:=qa hF;replace hF:=hK3
 refine X0 5 rfl ?_
 obtain ⟨o4,hF,hK4⟩:=qf hF
 refine ql (rL (fun m e w'=>∃ (x7:(List Int)) (i4:Int),qbB a_1 m x7 i4=some o4∧e=[(3,.pointer (some ⟨bb2,0,none⟩)),(9,.slice p14 x5.length x5.length),(12,.int .i64 i4)]∧SH w w' [Ch.own S9 (x7:List Int) [.slice p14 x5.length x5.length],Ch.box bb2 (qaQ a_1 p2 p3 p4 k2 k3 k4) 45]) n ⟨_,_,hF,rfl,h⟩ rfl ?_)
 rintro m4 e4 w14 ⟨x7,i4,hF,rfl,h⟩
 rcases m4 with _|m4
 ·cases hF
 refine X1 9 1 h rfl (qh rfl hF ?_ ?_)<;>intro hF
 ·refine X1 8 1 h rfl ?_
  obtain ⟨y7,hy7,hF,he7,b9,_,q7,cs9,hp7,hq7,hr7,hc13⟩:=s4.ix hF
  obtain rfl:=qak hr7
  refine zxe hp7 hq7 he7 rfl (zp1 rfl (zc 1 (hc13.below h.below) rfl (X0 2 rfl (qh rfl hF ?_ ?_))))<;>intro hF
  ·refine X1 5 1 h rfl ?_
   obtain ⟨y8,hy8,hF,he8,b10,_,q8,cs10,hp8,hq8,hr8,hc15⟩:=s4.ix hF
   obtain rfl:=qak hr8
   refine zxe hp8 hq8 he8 rfl (zp1 rfl (zc 2 (hc15.below h.below) rfl ?_))
   obtain ⟨y9,hy9,hF,he9,b11,_,q9,cs11,hp9,hq9,rfl,hc16⟩:=(h.sl 0 rfl).1.ix hF
   refine zx hp9 hq9 ⟨he9.1,qJ he9.2.1 (h.sl 0 rfl).2⟩ rfl (zc 0 hc16 rfl (zp1 rfl ?_))
   obtain ⟨y10,hy10,hF,he10,b12,_,q10,cs12,hp10,hq10,rfl,hc17⟩:=(h.sl 0 rfl).1.ix hF
   exact zx hp10 hq10 ⟨he10.1,qJ he10.2.1 (h.sl 0 rfl).2⟩ rfl (qaS qb 0 0 (W64 (y9+1)) h rfl hy10 hp10 hq10 rfl hc17 rfl rfl rfl rfl rfl rfl rfl fun w15 h=>X0 7 rfl (rK ⟨_,_,hF,rfl,h⟩ rfl))
  exact X0 7 rfl (rK ⟨_,_,hF,rfl,h⟩ rfl)
 refine qr rfl ?_
 obtain rfl:=qa hF;replace hF:=hK4
 refine X0 5 rfl ?_
 obtain ⟨o5,hF,hK5⟩:=qf hF
 refine ql ?_
 replace h:=h.pick [0] rfl
 refine rL (fun m e w'=>∃ (i5:Int),qc9 x5 x7 m i5=some o5∧e=[(9,.slice p14 x5.length x5.length),(13,.int .i64 i5)]∧SH w w' [Ch.own S9 (x7:List Int) [.slice p14 x5.length x5.length]]) n ⟨_,hF,rfl,h⟩ rfl ?_
 rintro m5 e5 w16 ⟨i5,hF,rfl,h⟩
 rcases m5 with _|m5
 ·cases hF
 refine X0 8 rfl (qh rfl hF ?_ ?_)<;>intro hF
 ·refine X0 7 rfl ?_
  obtain ⟨y11,hy11,hF,he11,b13,_,q11,cs13,hp11,hq11,rfl,hc19⟩:=(h.sl 0 rfl).1.ix hF
  refine zx hp11 hq11 ⟨he11.1,qJ he11.2.1 (h.sl 0 rfl).2⟩ rfl (zc 0 hc19 rfl (X0 2 rfl (qh rfl hF ?_ ?_)))<;>intro hF
  ·refine X0 4 rfl ?_
   obtain rfl:=qa hF;replace hF:=hK5
   exact rb h hF rfl
  exact X0 7 rfl (rK ⟨_,hF,rfl,h⟩ rfl)
 refine qr rfl ?_
 obtain rfl:=qa hF;replace hF:=hK5
 exact X0 4 rfl (rb h hF rfl)
def qd2 (a_0:qw):Nat→Int→Option (Flow Bool Int)
 | 0,_=>none
 | n+1,i2 =>
  bif decide (i2<(a_0.Bg.length:Int)) then
   (idx a_0.Bg i2).bind fun y7 =>
   (qX n y7 0 (W64 ((a_0.Ai.length:Int)-1))).bind fun r5 =>
   bif (!r5) then some (.ret false) else
   qd2 a_0 n (W64 (i2+1))
  else
   some (.nxt i2)
def qbM (a_0:qw):Nat→Int→Option (Flow Bool Int)
 | 0,_=>none
 | n+1,i1 =>
  bif decide (i1<(a_0.Ai.length:Int)) then
   (
    (idx a_0.Bk i1).bind fun y5 =>
    (qX n y5 0 500).bind fun r3 =>
    bif (!r3) then some true else
    (idx a_0.Bn i1).bind fun y6 =>
    (qX n y6 0 1000).bind fun r4 =>
    some (!r4)).bind fun b2 =>
   bif b2 then some (.ret false) else
   bif (i1==0) then
    (idx a_0.Ai i1).bind fun y1 =>
    bif (y1 != (-1)) then some (.ret false) else
    (idx a_0.Bn i1).bind fun y2 =>
    bif (y2 != 0) then some (.ret false) else
    bif decide (i1 > 0) then
     (idx a_0.Ai i1).bind fun y3 =>
     (qX n y3 0 (W64 (i1-1))).bind fun r1 =>
     bif (!r1) then some (.ret false) else
     qbM a_0 n (W64 (i1+1))
    else
     qbM a_0 n (W64 (i1+1))
   else
    bif decide (i1 > 0) then
     (idx a_0.Ai i1).bind fun y4 =>
     (qX n y4 0 (W64 (i1-1))).bind fun r2 =>
     bif (!r2) then some (.ret false) else
     qbM a_0 n (W64 (i1+1))
    else
     qbM a_0 n (W64 (i1+1))
  else
   some (.nxt i1)
def qiE (n:Nat) (a_0:qw) (a_1:Int):Option Bool :=
 (
  bif decide ((a_0.Ai.length:Int)<1) then some true else
  bif decide ((a_0.Ai.length:Int) > 8) then some true else
  bif ((a_0.Bn.length:Int) != (a_0.Ai.length:Int)) then some true else
  bif ((a_0.Bk.length:Int) != (a_0.Ai.length:Int)) then some true else
  some ((a_0.Bg.length:Int) != a_1)).bind fun b1 =>
 bif b1 then some false else
 (qbM a_0 n 0).bind fun o=>match o with
 | .ret r=>some r
 | .nxt _ =>
  (qd2 a_0 n 0).bind fun o=>match o with
  | .ret r=>some r
  | .nxt _ =>
   some true
theorem qnu {a_0:qw} {a_1:Int} (ha1:GoT.R w (old w) a_0 cs1) {r:Bool} (hF:qiE n a_0 a_1=some r):RetV Tryz.prog 132 [GoT.v qw cs1,.int .i64 a_1] w r:=by
 obtain ⟨p1,k1,p2,k2,p3,k3,p4,k4,rfl,s1,s2,s3,s4⟩:=qa0 ha1
 refine zV 108 Tryz.func132 rfl fun h=>zSR (qu h rfl rfl fun w1 bb1 h=>X1 11 0 h rfl ?_)
 obtain ⟨KF2,hKF2,o4,hF,hK4⟩:=bindE hF
 refine qcu (fun e w'=>∃ (b1:Bool),KF2 b1=some r∧e=[(2,.pointer (some ⟨bb1,0,none⟩)),(5,.int .i64 (a_0.Ai.length:Int)),(37,.bool b1)]∧SH w w' [Ch.box bb1 (qgw a_0 p1 p2 p3 p4 k1 k2 k3 k4) 215]) ?_ ?_
 ·refine X0 4 rfl (qg (t:=13) hF rfl ?_ ?_)<;>intro hF
  ·refine X0 25 rfl ?_
   obtain rfl:=qa hF
   exact rG ⟨_,hK4,rfl,h⟩ rfl
  refine X0 6 rfl (qg (t:=17) hF rfl ?_ ?_)<;>intro hF
  ·refine X0 21 rfl ?_
   obtain rfl:=qa hF
   exact rG ⟨_,hK4,rfl,h⟩ rfl
  refine X1 12 0 h rfl (qg (t:=24) hF rfl ?_ ?_)<;>intro hF
  ·refine X0 14 rfl ?_
   obtain rfl:=qa hF
   exact rG ⟨_,hK4,rfl,h⟩ rfl
  refine X1 12 0 h rfl (qg (t:=31) hF rfl ?_ ?_)<;>intro hF
  ·refine X0 7 rfl ?_
   obtain rfl:=qa hF
   exact rG ⟨_,hK4,rfl,h⟩ rfl
  refine X1 12 0 h rfl ?_
  obtain rfl:=qa hF
  exact rG ⟨_,hK4,rfl,h⟩ rfl
 rintro e4 w10 ⟨b1,hF,rfl,h⟩
 subst hKF2
 refine qh rfl hF ?_ ?_<;>intro hF
 ·exact X0 4 rfl (rb h hF rfl)
 refine X0 6 rfl ?_
 obtain ⟨o1,hF,hK1⟩:=qf hF
 refine ql (rL (fun m e w'=>∃ (i1:Int),qbM a_0 m i1=some o1∧e=[(2,.pointer (some ⟨bb1,0,none⟩)),(5,.int .i64 (a_0.Ai.length:Int)),(6,.int .i64 i1)]∧SH w w' [Ch.box bb1 (qgw a_0 p1 p2 p3 p4 k1 k2 k3 k4) 215]) n ⟨_,hF,rfl,h⟩ rfl ?_)
 rintro m1 e1 w2 ⟨i1,hF,rfl,h⟩
 rcases m1 with _|m1
 ·cases hF
 refine X0 7 rfl (qh rfl hF ?_ ?_)<;>intro hF
 ·refine X0 5 rfl ?_
  obtain ⟨KF1,hKF1,o2,hF,hK2⟩:=bindE hF
  refine qcu (fun e w'=>∃ (b2:Bool),KF1 b2=some o1∧e=[(2,.pointer (some ⟨bb1,0,none⟩)),(5,.int .i64 (a_0.Ai.length:Int)),(6,.int .i64 i1),(58,.bool b2)]∧SH w w' [Ch.box bb1 (qgw a_0 p1 p2 p3 p4 k1 k2 k3 k4) 215]) ?_ ?_
  ·refine X1 4 0 h rfl ?_
   obtain ⟨y5,hy5,hF,he5,b7,_,q5,cs6,hp5,hq5,rfl,hc10⟩:=s3.ix hF
   refine zxe hp5 hq5 he5 rfl (zc 0 (hc10.below h.below) rfl (zcB h hF qP rfl fun r3 w5 h hF=>zp2 rfl (qg (t:=50) hF rfl ?_ ?_)))<;>intro hF
   ·refine X0 9 rfl ?_
    obtain rfl:=qa hF
    exact rG ⟨_,hK2,rfl,h⟩ rfl
   refine X1 7 0 h rfl ?_
   obtain ⟨y6,hy6,hF,he6,b8,_,q6,cs7,hp6,hq6,rfl,hc11⟩:=s2.ix hF
   refine zxe hp6 hq6 he6 rfl (X0 1 rfl (zc 0 (hc11.below h.below) rfl (X0 1 rfl (zcB h hF qP rfl fun r4 w6 h hF=>X0 4 rfl ?_))))
   obtain rfl:=qa hF
   exact rG ⟨_,hK2,rfl,h⟩ rfl
  rintro e2 w7 ⟨b2,hF,rfl,h⟩
  subst hKF1
  refine qh rfl hF ?_ ?_<;>intro hF
  ·refine X0 4 rfl ?_
   obtain rfl:=qa hF;replace hF:=hK1
   exact rb h hF rfl
  refine X0 6 rfl (qg (t:=61) hF rfl ?_ ?_)<;>intro hF
  ·refine X1 7 0 h rfl ?_
   obtain ⟨y1,hy1,hF,he1,b3,_,q1,cs2,hp1,hq1,rfl,hc4⟩:=s1.ix hF
   refine zxe hp1 hq1 he1 rfl (X0 1 rfl (zc 0 (hc4.below h.below) rfl (X0 4 rfl (qg (t:=68) hF rfl ?_ ?_))))<;>intro hF
   ·refine X0 25 rfl (qb2 rfl rfl (X0 4 rfl ?_))
    obtain rfl:=qa hF;replace hF:=hK1
    exact rb h hF rfl
   refine X1 7 0 h rfl ?_
   obtain ⟨y2,hy2,hF,he2,b4,_,q2,cs3,hp2,hq2,rfl,hc5⟩:=s2.ix hF
   refine zxe hp2 hq2 he2 rfl (X0 1 rfl (zc 0 (hc5.below h.below) rfl (X0 6 rfl (qg (t:=77) hF rfl ?_ ?_))))<;>intro hF
   ·refine X0 15 rfl (qb2 rfl rfl (X0 4 rfl ?_))
    obtain rfl:=qa hF;replace hF:=hK1
    exact rb h hF rfl
   refine X0 6 rfl (qg (t:=80) hF rfl ?_ ?_)<;>intro hF
   ·refine X1 7 0 h rfl ?_
    obtain ⟨y3,hy3,hF,he3,b5,_,q3,cs4,hp3,hq3,rfl,hc6⟩:=s1.ix hF
    refine zxe hp3 hq3 he3 rfl (X0 1 rfl (zc 0 (hc6.below h.below) rfl (X0 5 rfl (zcB h hF qP rfl fun r1 w3 h hF=>X0 6 rfl (qh rfl hF ?_ ?_)))))<;>intro hF
    ·refine X0 4 rfl ?_
     obtain rfl:=qa hF;replace hF:=hK1
     exact rb h hF rfl
    exact X0 7 rfl (rK ⟨_,hF,rfl,h⟩ rfl)
   exact X0 13 rfl (qcU rfl rfl (X0 7 rfl (rK ⟨_,hF,rfl,h⟩ rfl)))
  refine X0 22 rfl (qg (t:=80) hF rfl ?_ ?_)<;>intro hF
  ·refine X1 7 0 h rfl ?_
   obtain ⟨y4,hy4,hF,he4,b6,_,q4,cs5,hp4,hq4,rfl,hc8⟩:=s1.ix hF
   refine zxe hp4 hq4 he4 rfl (X0 1 rfl (zc 0 (hc8.below h.below) rfl (X0 5 rfl (zcB h hF qP rfl fun r2 w4 h hF=>X0 6 rfl (qh rfl hF ?_ ?_)))))<;>intro hF
   ·refine X0 4 rfl ?_
    obtain rfl:=qa hF;replace hF:=hK1
    exact rb h hF rfl
   exact X0 7 rfl (rK ⟨_,hF,rfl,h⟩ rfl)
  exact X0 13 rfl (qcU rfl rfl (X0 7 rfl (rK ⟨_,hF,rfl,h⟩ rfl)))
 refine qr rfl ?_
 obtain rfl:=qa hF;replace hF:=hK1
 refine X0 5 rfl ?_
 obtain ⟨o3,hF,hK3⟩:=qf hF
 refine ql (rL (fun m e w'=>∃ (i2:Int),qd2 a_0 m i2=some o3∧e=[(2,.pointer (some ⟨bb1,0,none⟩)),(5,.int .i64 (a_0.Ai.length:Int)),(7,.int .i64 i2)]∧SH w w' [Ch.box bb1 (qgw a_0 p1 p2 p3 p4 k1 k2 k3 k4) 215]) n ⟨_,hF,rfl,h⟩ rfl ?_)
 rintro m2 e3 w8 ⟨i2,hF,rfl,h⟩
 rcases m2 with _|m2
 ·cases hF
 refine X1 9 0 h rfl (qh rfl hF ?_ ?_)<;>intro hF
 ·refine X1 8 0 h rfl ?_
  obtain ⟨y7,hy7,hF,he7,b9,_,q7,cs8,hp7,hq7,rfl,hc13⟩:=s4.ix hF
  refine zxe hp7 hq7 he7 rfl (zc 0 (hc13.below h.below) rfl (zp2 rfl (zcB h hF qP rfl fun r5 w9 h hF=>X0 2 rfl (qh rfl hF ?_ ?_))))<;>intro hF
  ·refine X0 4 rfl ?_
   obtain rfl:=qa hF;replace hF:=hK3
   exact rb h hF rfl
  exact X0 7 rfl (rK ⟨_,hF,rfl,h⟩ rfl)
 refine qr rfl ?_
 obtain rfl:=qa hF;replace hF:=hK3
 exact X0 4 rfl (rb h hF rfl)
def qbI (i1:Int) (y1:qd):Nat→(List Tl05Place)→Int→Option ((List Tl05Place) × Int)
 | 0,_,_=>none
 | n+1,x2,i2 =>
  bif decide (i2<(y1.Ah.length:Int)) then
   (idx y1.Ah i2).bind fun y2 =>
   (appS x2 ([(⟨i1,i2,y2,(i2==(W64 ((y1.Ah.length:Int)-1)))⟩:Tl05Place)]:List Tl05Place)).bind fun x3 =>
   qbI i1 y1 n x3 (W64 (i2+1))
  else
   some (x2,i2)
def qbL (a_0:qc):Nat→(List Tl05Place)→Int→Option ((List Tl05Place) × Int)
 | 0,_,_=>none
 | n+1,x4,i3 =>
  bif decide (i3<(a_0.Af.length:Int)) then
   (idx a_0.Af i3).bind fun y3 =>
   (idx a_0.Af i3).bind fun y4 =>
   (appS x4 ([(⟨(-1),i3,y3.Bo,(y4.Bm==1)⟩:Tl05Place)]:List Tl05Place)).bind fun x5 =>
   qbL a_0 n x5 (W64 (i3+1))
  else
   some (x4,i3)
def qbQ (a_0:qc):Nat→(List Tl05Place)→Int→Option ((List Tl05Place) × Int)
 | 0,_,_=>none
 | n+1,x1,i1 =>
  bif decide (i1<(a_0.Aa.length:Int)) then
   (idx a_0.Aa i1).bind fun y1 =>
   (qbI i1 y1 n x1 0).bind fun o=>match o with
   | (x2,_) =>
    qbQ a_0 n x2 (W64 (i1+1))
  else
   some (x1,i1)
def qd6 (n:Nat) (a_0:qc):Option (List Tl05Place) :=
 (qbQ a_0 n ([]:List Tl05Place) 0).bind fun o=>match o with
 | (x1,_) =>
  (qbL a_0 n x1 0).bind fun o=>match o with
  | (x4,_) =>
   some x4
theorem qgf {a_0:qc} (ha1:GoT.R w (old w) a_0 cs1) {r:(List Tl05Place)} (hF:qd6 n a_0=some r):RetV Tryz.prog 184 [GoT.v qc cs1] w r:=by
 obtain ⟨p1,k1,p2,k2,p3,k3,rfl,s1,s2,s3⟩:=qae ha1
 refine zV 69 Tryz.func184 rfl fun h=>zSR (qu h rfl rfl fun w1 bb1 h=>X0 4 rfl (qab qb [] _ ([]:List Tl05Place) h rfl rfl rfl rfl rfl rfl rfl rfl rfl trivial rfl fun w2 p4 S1 h=>X0 7 rfl ?_))
 obtain ⟨o1,hF,hK1⟩:=qf hF
 refine ql (rL (fun m e w'=>∃ (S2:Nat→Prop) (p5:Option Addr) (ln1:Nat) (k4:Nat) (x1:(List Tl05Place)) (i1:Int),qbQ a_0 m x1 i1=some o1∧e=[(1,.pointer (some ⟨bb1,0,none⟩)),(3,.slice p5 ln1 k4),(4,.int .i64 i1)]∧SH w w' [Ch.own S2 (x1:List Tl05Place) [.slice p5 ln1 k4],Ch.box bb1 (qaQ a_0 p1 p2 p3 k1 k2 k3) 45]) n ⟨_,_,_,_,_,_,hF,rfl,h⟩ rfl ?_)
 rintro m1 e1 w3 ⟨S2,p5,ln1,k4,x1,i1,hF,rfl,h⟩
 obtain rfl:=(h.sl 0 rfl).2
 rcases m1 with _|m1
 ·cases hF
 refine X1 9 1 h rfl (qh rfl hF ?_ ?_)<;>intro hF
 ·refine X1 8 1 h rfl ?_
  obtain ⟨y1,hy1,hF,he1,b1,_,q1,cs2,hp1,hq1,hr1,hc2⟩:=s1.ix hF
  obtain ⟨p6,k5,rfl,s4⟩:=qM hr1
  refine zxe hp1 hq1 he1 rfl (zp1 rfl (zc 2 (hc2.below h.below) rfl (X0 6 rfl ?_)))
  obtain ⟨o2,hF,hK2⟩:=qf hF
  refine ql (rL (fun m e w'=>∃ (S3:Nat→Prop) (p7:Option Addr) (ln2:Nat) (k6:Nat) (x2:(List Tl05Place)) (i2:Int),qbI i1 y1 m x2 i2=some o2∧e=[(1,.pointer (some ⟨bb1,0,none⟩)),(3,.slice p7 ln2 k6),(4,.int .i64 i1),(5,.slice p6 y1.Ah.length k5),(6,.int .i64 i2)]∧SH w w' [Ch.own S3 (x2:List Tl05Place) [.slice p7 ln2 k6],Ch.box bb1 (qaQ a_0 p1 p2 p3 k1 k2 k3) 45]) m1 ⟨_,_,_,_,_,_,hF,rfl,h⟩ rfl ?_)
  rintro m2 e2 w4 ⟨S3,p7,ln2,k6,x2,i2,hF,rfl,h⟩
  obtain rfl:=(h.sl 0 rfl).2
  rcases m2 with _|m2
  ·cases hF
  refine X0 8 rfl (qh rfl hF ?_ ?_)<;>intro hF
  ·refine X0 9 rfl ?_
   obtain ⟨y2,hy2,hF,he2,b2,_,q2,cs3,hp2,hq2,rfl,hc4⟩:=s4.ix hF
   refine zxe hp2 hq2 he2 rfl (zc 0 (hc4.below h.below) rfl (zp5 rfl (r_v (qdA qb [0,1,2,3] [.tmp 29,.tmp 30,.tmp 34,.tmp 39] rfl rfl rfl rfl rfl rfl rfl rfl) rfl (qab qb [.tmp 40] _ ([(⟨i1,i2,y2,(i2==(W64 ((y1.Ah.length:Int)-1)))⟩:Tl05Place)]:List Tl05Place) h rfl rfl rfl rfl rfl rfl rfl rfl rfl ⟨(qkI (⟨i1,i2,y2,(i2==(W64 ((y1.Ah.length:Int)-1)))⟩:Tl05Place)),trivial⟩ rfl fun w5 p8 S4 h=>?_))))
   obtain ⟨x3,hx1,hF⟩:=qf hF
   obtain ⟨g1,hx1⟩:=qaY hx1
   refine qei qb 1 h rfl (h.sl 0 rfl).1 (h.sl 0 rfl).2 rfl rfl rfl rfl rfl rfl rfl rfl rfl g1 hx1 rfl fun w6 p9 k7 S5 h=>X0 8 rfl ?_
   replace h:=h.pick [1,2] rfl
   exact rK ⟨_,_,_,_,_,_,hF,rfl,h⟩ rfl
  refine qr rfl ?_
  obtain rfl:=qa hF;replace hF:=hK2
  exact X0 6 rfl (rK ⟨_,_,_,_,_,_,hF,rfl,h⟩ rfl)
 refine qr rfl ?_
 obtain rfl:=qa hF;replace hF:=hK1
 refine X0 5 rfl ?_
 obtain ⟨o3,hF,hK3⟩:=qf hF
 refine ql (rL (fun m e w'=>∃ (S6:Nat→Prop) (p10:Option Addr) (ln3:Nat) (k8:Nat) (x4:(List Tl05Place)) (i3:Int),qbL a_0 m x4 i3=some o3∧e=[(1,.pointer (some ⟨bb1,0,none⟩)),(3,.slice p10 ln3 k8),(7,.int .i64 i3)]∧SH w w' [Ch.own S6 (x4:List Tl05Place) [.slice p10 ln3 k8],Ch.box bb1 (qaQ a_0 p1 p2 p3 k1 k2 k3) 45]) n ⟨_,_,_,_,_,_,hF,rfl,h⟩ rfl ?_)
 rintro m3 e3 w7 ⟨S6,p10,ln3,k8,x4,i3,hF,rfl,h⟩
 obtain rfl:=(h.sl 0 rfl).2
 rcases m3 with _|m3
 ·cases hF
 refine X1 9 1 h rfl (qh rfl hF ?_ ?_)<;>intro hF
 ·refine zKSB (rA [] [1] h rfl fun w8 h=>M1 31 [0,1,2,3,4] 0 (h.pick [1] rfl) rfl ?_)
  obtain ⟨y3,hy3,hF,he3,b3,_,q3,cs4,hp3,hq3,hr3,hc6⟩:=s3.ix hF
  obtain rfl:=qak hr3
  refine Ae 5 63 hp3 hq3 he3 (h.pick [1] rfl) rfl (M0 127 [6] (h.pick [1] rfl) rfl (Al 7 255 2 hc6 (h.pick [1] rfl) rfl (M1 2047 [8,9,10] 0 (h.pick [1] rfl) rfl ?_)))
  obtain ⟨y4,hy4,hF,he4,b4,_,q4,cs5,hp4,hq4,hr4,hc7⟩:=s3.ix hF
  obtain rfl:=qak hr4
  refine Ae 11 4095 hp4 hq4 he4 (h.pick [1] rfl) rfl (M0 8191 [12] (h.pick [1] rfl) rfl (Al 13 16383 1 hc7 (h.pick [1] rfl) rfl (M0 32767 [14] (h.pick [1] rfl) rfl (Aw 15 65535 (fun w' hw=>qdA qb [0,1,2,3] [.const (.int .i64 (-1)),.tmp 51,.tmp 57,.tmp 64] rfl rfl rfl rfl rfl rfl rfl rfl) (h.pick [1] rfl) rfl ?_))))
  refine Ao 16 131071 rfl (qab qb [.tmp 65] _ ([(⟨(-1),i3,y3.Bo,(y4.Bm==1)⟩:Tl05Place)]:List Tl05Place) h rfl rfl rfl rfl rfl rfl rfl rfl rfl ⟨(qkI (⟨(-1),i3,y3.Bo,(y4.Bm==1)⟩:Tl05Place)),trivial⟩ rfl fun w9 p11 S7 h=>Ag (h.pick [2] rfl) (Ao 17 262143 rfl ?_))
  obtain ⟨x5,hx2,hF⟩:=qf hF
  obtain ⟨g2,hx2⟩:=qaY hx2
  refine qei qb 1 h rfl (h.sl 0 rfl).1 (h.sl 0 rfl).2 rfl rfl rfl rfl rfl rfl rfl rfl rfl g2 hx2 rfl fun w10 p12 k9 S8 h=>G0 524287 [18] (h.pick [2] rfl) rfl (Ad (X0 6 rfl ?_))
  replace h:=h.pick [1,2] rfl
  exact rK ⟨_,_,_,_,_,_,hF,rfl,h⟩ rfl
 refine qr rfl ?_
 obtain rfl:=qa hF;replace hF:=hK3
 refine X0 5 rfl ?_
 obtain rfl:=qa hF
 exact rO 0 h rfl ⟨rfl,trivial⟩
def qbz (net:Int) (r1:(List Tl05Place)):Nat→(List Int)→Int→Option ((List Int) × Int)
 | 0,_,_=>none
 | n+1,x1,i1 =>
  bif decide (i1<(r1.length:Int)) then
   (
    (idx r1 i1).bind fun y1 =>
    bif (y1.net==net) then
     (idx r1 i1).bind fun y2 =>
     some (!y2.drives)
    else
     some false).bind fun b1 =>
   bif b1 then
    (appS x1 ([i1]:List Int)).bind fun x2 =>
    qbz net r1 n x2 (W64 (i1+1))
   else
    qbz net r1 n x1 (W64 (i1+1))
  else
   some (x1,i1)
def qgW (n:Nat) (d:qc) (net:Int):Option (List Int) :=
 (qd6 n d).bind fun r1 =>
 (qbz net r1 n ([]:List Int) 0).bind fun o=>match o with
 | (x1,_) =>
  some x1
theorem qlF {d:qc} {net:Int} (ha1:GoT.R w (old w) d cs1) {r:(List Int)} (hF:qgW n d net=some r):RetV Tryz.prog 133 [GoT.v qc cs1,.int .i64 net] w r:=by
 obtain ⟨p1,k1,p2,k2,p3,k3,rfl,s1,s2,s3⟩:=qae ha1
 refine zV 37 Tryz.func133 rfl fun h=>zSR (qu h rfl rfl fun w1 bb1 h=>X0 4 rfl (qab qb [] _ ([]:List Int) h rfl rfl rfl rfl rfl rfl rfl rfl rfl trivial rfl fun w2 p4 S1 h=>X1 5 1 h rfl (zcL h hF (qgf (h.old ha1)) rfl fun r1 w3 S2 p5 k4 h hF=>X0 7 rfl ?_)))
 obtain ⟨o1,hF,hK1⟩:=qf hF
 refine ql ?_
 replace h:=h.pick [0,1] rfl
 refine rL (fun m e w'=>∃ (S3:Nat→Prop) (p6:Option Addr) (ln1:Nat) (k5:Nat) (x1:(List Int)) (i1:Int),qbz net r1 m x1 i1=some o1∧e=[(1,.int .i64 net),(5,.slice p6 ln1 k5),(6,.slice p5 r1.length k4),(7,.int .i64 i1)]∧SH w w' [Ch.own S2 (r1:List Tl05Place) [.slice p5 r1.length k4],Ch.own S3 (x1:List Int) [.slice p6 ln1 k5]]) n ⟨_,_,_,_,_,_,hF,rfl,h⟩ rfl ?_
 rintro m1 e1 w4 ⟨S3,p6,ln1,k5,x1,i1,hF,rfl,h⟩
 obtain rfl:=(h.sl 1 rfl).2
 rcases m1 with _|m1
 ·cases hF
 refine X0 8 rfl (qh rfl hF ?_ ?_)<;>intro hF
 ·refine X0 4 rfl ?_
  obtain ⟨KF1,hKF1,o2,hF,hK2⟩:=bindE hF
  refine qcu (fun e w'=>∃ (b1:Bool),KF1 b1=some o1∧e=[(1,.int .i64 net),(5,.slice p6 x1.length k5),(6,.slice p5 r1.length k4),(7,.int .i64 i1),(31,.bool b1)]∧SH w w' [Ch.own S2 (r1:List Tl05Place) [.slice p5 r1.length k4],Ch.own S3 (x1:List Int) [.slice p6 x1.length k5]]) ?_ ?_
  ·refine X0 3 rfl ?_
   obtain ⟨y1,hy1,hF,he1,b2,_,q1,cs2,hp1,hq1,hr2,hc3⟩:=(h.sl 0 rfl).1.ix hF
   obtain rfl:=qgq hr2
   refine zx hp1 hq1 ⟨he1.1,qJ he1.2.1 (h.sl 0 rfl).2⟩ rfl (zp1 rfl (zc 2 hc3 rfl (zp3 rfl (qg (t:=24) hF rfl ?_ ?_))))<;>intro hF
   ·refine X0 5 rfl ?_
    obtain ⟨y2,hy2,hF,he2,b3,_,q2,cs3,hp2,hq2,hr3,hc4⟩:=(h.sl 0 rfl).1.ix hF
    obtain rfl:=qgq hr3
    refine zx hp2 hq2 ⟨he2.1,qJ he2.2.1 (h.sl 0 rfl).2⟩ rfl (X0 3 rfl (zc 3 hc4 rfl (X0 4 rfl ?_)))
    obtain rfl:=qa hF
    exact rG ⟨_,hK2,rfl,h⟩ rfl
   refine X0 8 rfl ?_
   obtain rfl:=qa hF
   exact rG ⟨_,hK2,rfl,h⟩ rfl
  rintro e2 w7 ⟨b1,hF,rfl,h⟩
  subst hKF1
  refine qh rfl hF ?_ ?_<;>intro hF
  ·refine X0 3 rfl (qab qb [.tmp 33] _ ([i1]:List Int) h rfl rfl rfl rfl rfl rfl rfl rfl rfl ⟨rfl,trivial⟩ rfl fun w5 p7 S4 h=>?_)
   obtain ⟨x2,hx1,hF⟩:=qf hF
   obtain ⟨g1,hx1⟩:=qaY hx1
   refine qei qb 2 h rfl (h.sl 0 rfl).1 (h.sl 0 rfl).2 rfl rfl rfl rfl rfl rfl rfl rfl rfl g1 hx1 rfl fun w6 p8 k6 S5 h=>X0 8 rfl ?_
   replace h:=h.pick [1,2] rfl
   exact rK ⟨_,_,_,_,_,_,hF,rfl,h⟩ rfl
  exact X0 7 rfl (rK ⟨_,_,_,_,_,_,hF,rfl,h⟩ rfl)
 refine qr rfl ?_
 obtain rfl:=qa hF;replace hF:=hK1
 refine X0 5 rfl ?_
 obtain rfl:=qa hF
 exact rO 1 h rfl ⟨rfl,trivial⟩
def qdy (b:qk):Nat→Int→Option (Flow Bool Int)
 | 0,_=>none
 | n+1,i1 =>
  bif decide (i1<(b.Ac.length:Int)) then
   (idx b.Ac i1).bind fun y1 =>
   (qgW n (⟨b.Ab.Aa,b.Ab.Ah,b.Ab.Af⟩:qc) i1).bind fun r1 =>
   (qiE n y1 (r1.length:Int)).bind fun r2 =>
   bif (!r2) then some (.ret false) else
   qdy b n (W64 (i1+1))
  else
   some (.nxt i1)
def qhY (n:Nat) (b:qk):Option Bool :=
 (
  (qg0 n (⟨b.Au.Ak⟩:qn) (⟨b.Ab.Aa,b.Ab.Ah,b.Ab.Af⟩:qc)).bind fun r3 =>
  bif (!r3) then some true else
  some ((b.Ac.length:Int) != (b.Ab.Ah.length:Int))).bind fun b1 =>
 bif b1 then some false else
 (qdy b n 0).bind fun o=>match o with
 | .ret r=>some r
 | .nxt _ =>
  some true
theorem qmH {b:qk} (ha1:GoT.R w (old w) b cs1) {r:Bool} (hF:qhY n b=some r):RetV Tryz.prog 51 [GoT.v qk cs1] w r:=by
 obtain ⟨p1,k1,p2,k2,p3,k3,p4,k4,p5,k5,rfl,s1,s2,s3,s4,s5⟩:=qV ha1
 refine zV 39 Tryz.func51 rfl fun h=>zSR (qu h rfl rfl fun w1 bb1 h=>X0 4 rfl ?_)
 obtain ⟨KF1,hKF1,o2,hF,hK2⟩:=bindE hF
 refine qcu (fun e w'=>∃ (b1:Bool),KF1 b1=some r∧e=[(1,.pointer (some ⟨bb1,0,none⟩)),(19,.bool b1)]∧SH w w' [Ch.box bb1 (qaC b p1 p2 p3 p4 p5 k1 k2 k3 k4 k5) 48]) ?_ ?_
 ·refine X2 5 0 0 h rfl (zcB h hF (qlL (qdC _ (h.oldS s1)) (qaF _ (h.oldS s2) (h.oldS s3) (h.oldS s4))) rfl fun r3 w6 h hF=>zp2 rfl (qg (t:=10) hF rfl ?_ ?_))<;>intro hF
  ·refine X0 10 rfl ?_
   obtain rfl:=qa hF
   exact rG ⟨_,hK2,rfl,h⟩ rfl
  refine X2 18 0 0 h rfl ?_
  obtain rfl:=qa hF
  exact rG ⟨_,hK2,rfl,h⟩ rfl
 rintro e2 w7 ⟨b1,hF,rfl,h⟩
 subst hKF1
 refine qh rfl hF ?_ ?_<;>intro hF
 ·exact X0 4 rfl (rb h hF rfl)
 refine X0 6 rfl ?_
 obtain ⟨o1,hF,hK1⟩:=qf hF
 refine ql (rL (fun m e w'=>∃ (i1:Int),qdy b m i1=some o1∧e=[(1,.pointer (some ⟨bb1,0,none⟩)),(3,.int .i64 i1)]∧SH w w' [Ch.box bb1 (qaC b p1 p2 p3 p4 p5 k1 k2 k3 k4 k5) 48]) n ⟨_,hF,rfl,h⟩ rfl ?_)
 rintro m1 e1 w2 ⟨i1,hF,rfl,h⟩
 rcases m1 with _|m1
 ·cases hF
 refine X1 9 0 h rfl (qh rfl hF ?_ ?_)<;>intro hF
 ·refine X0 4 rfl (rA [] [0] h rfl fun w3 h=>M1 7 [0,1,2] 0 (h.pick [0] rfl) rfl ?_)
  obtain ⟨y1,hy1,hF,he1,b2,_,q1,cs2,hp1,hq1,hr1,hc3⟩:=s5.ix hF
  obtain ⟨p6,k6,p7,k7,p8,k8,p9,k9,rfl,s6,s7,s8,s9⟩:=qa0 hr1
  refine Ae 3 15 hp1 hq1 he1 (h.pick [0] rfl) rfl (Al 4 31 0 hc3 (h.pick [0] rfl) rfl (M1 255 [5,6,7] 0 (h.pick [0] rfl) rfl (Ao 8 511 rfl (zcL h hF (qlF (qaF _ (h.oldS s2) (h.oldS s3) (h.oldS s4))) rfl fun r1 w4 S1 p10 k10 h hF=>G0 1023 [9] (h.pick [1] rfl) rfl (Ao 10 2047 rfl (zcB h hF (qnu (qh2 y1 (h.oldS s6) (h.oldS s7) (h.oldS s8) (h.oldS s9))) rfl fun r2 w5 h hF=>G0 4095 [11] (h.pick [1] rfl) rfl (Ad (qh rfl hF ?_ ?_))))))))<;>intro hF
  ·refine X0 4 rfl ?_
   obtain rfl:=qa hF;replace hF:=hK1
   exact rb h hF rfl
  refine X0 7 rfl ?_
  replace h:=h.pick [1] rfl
  exact rK ⟨_,hF,rfl,h⟩ rfl
 refine qr rfl ?_
 obtain rfl:=qa hF;replace hF:=hK1
 exact X0 4 rfl (rb h hF rfl)
def qam (_:Nat) (x:Int) (low:Int) (high:Int):Option Bool :=
 bif decide (x ≥ low) then some (decide (x≤high)) else
 some false
theorem qac {x:Int} {low:Int} {high:Int}  {r:Bool} (hF:qam n x low high=some r):RetV Tryz.prog 114 [.int .i64 x,.int .i64 low,.int .i64 high] w r:=by
 refine zV 15 Tryz.func114 rfl fun h=>X0 10 rfl (qg (t:=10) hF rfl ?_ ?_)<;>intro hF
 ·exact X0 9 rfl (rb h hF rfl)
 exact X0 6 rfl (rb h hF rfl)
def qf0 (_:Nat) (list:(List ByteArray)):Option Int :=
 some (list.length:Int)
theorem qjK {list:(List ByteArray)} (ha1:GoT.R w (old w) list cs1) {r:Int} (hF:qf0 n list=some r):RetV Tryz.prog 160 [GoT.v (List ByteArray) cs1] w r:=by
 obtain ⟨p1,k1,rfl,s1⟩:=ha1
 exact zV 5 Tryz.func160 rfl fun h=>X0 10 rfl (ri h hF rfl)
def qbo (n:Nat) (d:qc) (net:Int):Option Bool :=
 (qf0 n d.Ah).bind fun r1 =>
 (qam n net 0 (W64 (r1-1))).bind fun r2 =>
 some r2
theorem qch {d:qc} {net:Int} (ha1:GoT.R w (old w) d cs1) {r:Bool} (hF:qbo n d net=some r):RetV Tryz.prog 78 [GoT.v qc cs1,.int .i64 net] w r:=by
 obtain ⟨p1,k1,p2,k2,p3,k3,rfl,s1,s2,s3⟩:=qae ha1
 exact zV 11 Tryz.func78 rfl fun h=>zSR (qu h rfl rfl fun w1 bb1 h=>X1 7 0 h rfl (zcI h hF (qjK ⟨_,_,rfl,(h.oldS s2)⟩) rfl fun r1 w2 h hF=>zp1 rfl (zcB h hF qac rfl fun r2 w3 h hF=>X0 2 rfl (rb h hF rfl))))
def qgt (_:Nat) (s cutset:ByteArray):Option ByteArray :=
 if s.size≤9223372036854775807∧cutset.size<4294967281∧cutset.data.toList.all (fun b=>decide (b.toNat<128))=true then some ⟨(Lib.trimS s.data.toList cutset.data.toList).toArray⟩ else none
theorem qmi {s cutset:ByteArray} {r:ByteArray} (hF:qgt n s cutset=some r):RetV Tryz.prog 239 [.string s,.string cutset] w r:=by
 unfold qgt at hF
 split at hF
 ·rename_i hh
  obtain rfl:=qa hF
  refine (Tryz.strings_Trim_any s cutset w hh.1 hh.2.1 hh.2.2).mono ?_
  rintro e w' ⟨rfl,hB⟩
  exact ⟨_,rfl,hB,[.string _],rfl,qqu _ _⟩
 cases hF
def qeW (_:Nat) (s:ByteArray) (c:(IntK .u8)):Option Int :=
 some (Lib.indexByte s.data.toList c.val.toNat.toUInt8)
theorem qka {s:ByteArray} {c:(IntK .u8)} {r:Int} (hF:qeW n s c=some r):RetV Tryz.prog 240 [.string s,.int .u8 c.val] w r:=by
 obtain rfl:=qa hF
 refine (Tryz.strings_IndexByte s c.val w).mono ?_
 rintro e w' ⟨rfl,rfl⟩
 exact ⟨_,rfl,Below.refl _ _,[.int .i64 _],rfl,qsR _ _⟩
def qhs (n:Nat) (s:ByteArray):Option Bool :=
 (qam n (s.size:Int) 1 8).bind fun r1 =>
 bif r1 then
  (qgt n s (⟨#[97,98,99,100,101,102,103,104,105,106,107,108,109,110,111,112,113,114,115,116,117,118,119,120,121,122,48,49,50,51,52,53,54,55,56,57]⟩:ByteArray)).bind fun r2 =>
  bif (r2.toList==(⟨#[]⟩:ByteArray).toList) then
   (atS s 0).bind fun y1 =>
   (qeW n (⟨#[97,98,99,100,101,102,103,104,105,106,107,108,109,110,111,112,113,114,115,116,117,118,119,120,121,122]⟩:ByteArray) (⟨y1⟩:IntK .u8)).bind fun r3 =>
   some (decide (r3 ≥ 0))
  else
   some false
 else
  some false
theorem qkg {s:ByteArray}  {r:Bool} (hF:qhs n s=some r):RetV Tryz.prog 178 [.string s] w r:=by
 refine zV 17 Tryz.func178 rfl fun h=>X0 8 rfl (zcB h hF qac rfl fun r1 w1 h hF=>zp1 rfl (qg (t:=6) hF rfl ?_ ?_))<;>intro hF
 ·refine X0 3 rfl (zcS h hF qmi rfl fun r2 w2 h hF=>X0 4 rfl (qg (t:=11) hF rfl ?_ ?_))<;>intro hF
  ·refine X0 3 rfl ?_
   obtain ⟨y1,hx1,hF⟩:=qf hF
   have g1:=qjM hx1
   exact r_v (qkd qb g1 rfl rfl rfl rfl) rfl (X0 1 rfl (zcI h hF qka rfl fun r3 w3 h hF=>X0 5 rfl (rb h hF rfl)))
  exact X0 7 rfl (rb h hF rfl)
 exact X0 12 rfl (rb h hF rfl)
def qbD (_:Nat) (list:(List qO)):Option Int :=
 some (list.length:Int)
theorem qga {list:(List qO)} (ha1:GoT.R w (old w) list cs1) {r:Int} (hF:qbD n list=some r):RetV Tryz.prog 254 [GoT.v (List qO) cs1] w r:=by
 obtain ⟨p1,k1,rfl,s1⟩:=ha1
 exact zV 5 Tryz.func254 rfl fun h=>X0 10 rfl (ri h hF rfl)
def qbi (s:(List ByteArray)) (v:ByteArray):Nat→Int→Option (Flow Int Int)
 | 0,_=>none
 | n+1,i1 =>
  bif decide (i1<(s.length:Int)) then
   (idx s i1).bind fun y1 =>
   bif (v.toList==y1.toList) then some (.ret i1) else
   qbi s v n (W64 (i1+1))
  else
   some (.nxt i1)
def qdV (n:Nat) (s:(List ByteArray)) (v:ByteArray):Option Int :=
 (qbi s v n 0).bind fun o=>match o with
 | .ret r=>some r
 | .nxt _ =>
  some (-1)
theorem qjv {s:(List ByteArray)} {v:ByteArray} (ha1:GoT.R w (old w) s cs1) {r:Int} (hF:qdV n s v=some r):RetV Tryz.prog 323 [GoT.v (List ByteArray) cs1,.string v] w r:=by
 obtain ⟨p1,k1,rfl,s1⟩:=ha1
 refine zV 19 Tryz.func323 rfl fun h=>X0 11 rfl ?_
 obtain ⟨o1,hF,hK1⟩:=qf hF
 refine ql (rL (fun m e w'=>∃ (i1:Int),qbi s v m i1=some o1∧e=[(0,.slice p1 s.length k1),(1,.string v),(7,.int .i64 (s.length:Int)),(8,.int .i64 i1)]∧SH w w' []) n ⟨_,hF,rfl,h⟩ rfl ?_)
 rintro m1 e1 w1 ⟨i1,hF,rfl,h⟩
 rcases m1 with _|m1
 ·cases hF
 refine X0 5 rfl (qh rfl hF ?_ ?_)<;>intro hF
 ·refine X0 13 rfl ?_
  obtain ⟨y1,hy1,hF,he1,b1,_,q1,cs2,hp1,hq1,rfl,hc2⟩:=s1.ix hF
  refine zxe hp1 hq1 he1 rfl (zc 0 (hc2.below h.below) rfl (X0 2 rfl (qh rfl hF ?_ ?_)))<;>intro hF
  ·refine X0 5 rfl ?_
   obtain rfl:=qa hF;replace hF:=hK1
   exact ri h hF rfl
  exact X0 6 rfl (rK ⟨_,hF,rfl,h⟩ rfl)
 refine qr rfl ?_
 obtain rfl:=qa hF;replace hF:=hK1
 exact X0 4 rfl (ri h hF rfl)
def qcV (n:Nat) (s:(List ByteArray)) (v:ByteArray):Option Bool :=
 (qdV n s v).bind fun r1 =>
 some (decide (r1 ≥ 0))
theorem qiA {s:(List ByteArray)} {v:ByteArray} (ha1:GoT.R w (old w) s cs1) {r:Bool} (hF:qcV n s v=some r):RetV Tryz.prog 303 [GoT.v (List ByteArray) cs1,.string v] w r:=by
 obtain ⟨p1,k1,rfl,s1⟩:=ha1
 exact zV 9 Tryz.func303 rfl fun h=>X0 8 rfl (zcI h hF (qjv ⟨_,_,rfl,(h.oldS s1)⟩) rfl fun r1 w1 h hF=>X0 3 rfl (rb h hF rfl))
def qc5 (list:(List ByteArray)):Nat→Int→Option (Flow Bool Int)
 | 0,_=>none
 | n+1,i1 =>
  bif decide (i1<(list.length:Int)) then
   (idx list i1).bind fun y1 =>
   (qhs n y1).bind fun r1 =>
   bif (!r1) then some (.ret false) else
   (subS list 0 i1).bind fun x1 =>
   (qcV n x1 y1).bind fun r2 =>
   bif r2 then some (.ret false) else
   qc5 list n (W64 (i1+1))
  else
   some (.nxt i1)
def qcW (n:Nat) (list:(List ByteArray)):Option Bool :=
 (qc5 list n 0).bind fun o=>match o with
 | .ret r=>some r
 | .nxt _ =>
  some true
theorem qd3 {list:(List ByteArray)} (ha1:GoT.R w (old w) list cs1) {r:Bool} (hF:qcW n list=some r):RetV Tryz.prog 262 [GoT.v (List ByteArray) cs1] w r:=by
 obtain ⟨p1,k1,rfl,s1⟩:=ha1
 refine zV 23 Tryz.func262 rfl fun h=>X0 11 rfl ?_
 obtain ⟨o1,hF,hK1⟩:=qf hF
 refine ql (rL (fun m e w'=>∃ (i1:Int),qc5 list m i1=some o1∧e=[(0,.slice p1 list.length k1),(5,.slice p1 list.length k1),(6,.int .i64 (list.length:Int)),(7,.int .i64 i1)]∧SH w w' []) n ⟨_,hF,rfl,h⟩ rfl ?_)
 rintro m1 e1 w1 ⟨i1,hF,rfl,h⟩
 rcases m1 with _|m1
 ·cases hF
 refine X0 5 rfl (qh rfl hF ?_ ?_)<;>intro hF
 ·refine X0 6 rfl ?_
  obtain ⟨y1,hy1,hF,he1,b1,_,q1,cs2,hp1,hq1,rfl,hc2⟩:=s1.ix hF
  refine zxe hp1 hq1 he1 rfl (zc 0 (hc2.below h.below) rfl (X0 6 rfl (zcB h hF qkg rfl fun r1 w2 h hF=>zp2 rfl (qg (t:=15) hF rfl ?_ ?_))))<;>intro hF
  ·refine X0 7 rfl (qb2 rfl rfl (X0 4 rfl ?_))
   obtain rfl:=qa hF;replace hF:=hK1
   exact rb h hF rfl
  refine X0 5 rfl ?_
  obtain ⟨x1,hx1,hF⟩:=qf hF
  obtain ⟨p2,k2,hp2,hk1,hl1,g1⟩:=qsf (h.oldS s1) hx1
  refine r_v (qp2 qb rfl rfl rfl (qsT g1 rfl) hp2 hk1 hl1 rfl rfl rfl rfl) rfl ?_
  have s2:=qsA s1 hx1 hp2 hk1
  refine X0 3 rfl (zcB h hF (qiA ⟨_,_,rfl,(h.oldS s2)⟩) rfl fun r2 w3 h hF=>X0 2 rfl (qh rfl hF ?_ ?_))<;>intro hF
  ·refine X0 4 rfl ?_
   obtain rfl:=qa hF;replace hF:=hK1
   exact rb h hF rfl
  exact X0 6 rfl (rK ⟨_,hF,rfl,h⟩ rfl)
 refine qr rfl ?_
 obtain rfl:=qa hF;replace hF:=hK1
 exact X0 4 rfl (rb h hF rfl)
def qbW (list:(List qO)):Nat→(List ByteArray)→Int→Option (Flow Bool ((List ByteArray) × Int))
 | 0,_,_=>none
 | n+1,x1,i1 =>
  bif decide (i1<(list.length:Int)) then
   (idx list i1).bind fun y1 =>
   (appS x1 ([y1.Ar]:List ByteArray)).bind fun x2 =>
   bif (i1==(W64 ((list.length:Int)-1))) then
    bif (y1.Bm != 2) then some (.ret false) else
    bif (y1.Bk != 0) then some (.ret false) else
    bif y1.Bh then some (.ret false) else
    qbW list n x2 (W64 (i1+1))
   else
    bif (y1.Bm != 1) then some (.ret false) else
    (qam n y1.Bk 0 500).bind fun r1 =>
    bif (!r1) then some (.ret false) else
    qbW list n x2 (W64 (i1+1))
  else
   some (.nxt (x1,i1))
def qhD (n:Nat) (list:(List qO)):Option Bool :=
 (qbW list n ([]:List ByteArray) 0).bind fun o=>match o with
 | .ret r=>some r
 | .nxt (x1,_) =>
  (qbD n list).bind fun r2 =>
  (qam n r2 2 5).bind fun r3 =>
  bif r3 then
   (qcW n x1).bind fun r4 =>
   some r4
  else
   some false
theorem qmA {list:(List qO)} (ha1:GoT.R w (old w) list cs1) {r:Bool} (hF:qhD n list=some r):RetV Tryz.prog 300 [GoT.v (List qO) cs1] w r:=by
 obtain ⟨p1,k1,rfl,s1⟩:=ha1
 refine zV 52 Tryz.func300 rfl fun h=>X0 15 rfl ?_
 replace h:=h.nil (α:=ByteArray)
 obtain ⟨o1,hF,hK1⟩:=qf hF
 refine ql (rL (fun m e w'=>∃ (S1:Nat→Prop) (p2:Option Addr) (ln1:Nat) (k2:Nat) (x1:(List ByteArray)) (i1:Int),qbW list m x1 i1=some o1∧e=[(0,.slice p1 list.length k1),(3,.slice p2 ln1 k2),(6,.slice p1 list.length k1),(7,.int .i64 (list.length:Int)),(8,.int .i64 i1)]∧SH w w' [Ch.own S1 (x1:List ByteArray) [.slice p2 ln1 k2]]) n ⟨_,_,_,_,_,_,hF,rfl,h⟩ rfl ?_)
 rintro m1 e1 w1 ⟨S1,p2,ln1,k2,x1,i1,hF,rfl,h⟩
 obtain rfl:=(h.sl 0 rfl).2
 rcases m1 with _|m1
 ·cases hF
 refine X0 5 rfl (qh rfl hF ?_ ?_)<;>intro hF
 ·refine X0 6 rfl ?_
  obtain ⟨y1,hy1,hF,he1,b1,_,q1,cs2,hp1,hq1,hr1,hc2⟩:=s1.ix hF
  obtain rfl:=qau hr1
  refine zxe hp1 hq1 he1 rfl (zc 0 (hc2.below h.below) rfl (qx qb h rfl rfl rfl fun w2 bb1 h=>zp1 rfl (zs 0 h rfl fun w3 h=>X1 6 0 h rfl (qab qb [.tmp 15] _ ([y1.Ar]:List ByteArray) h rfl rfl rfl rfl rfl rfl rfl rfl rfl ⟨rfl,trivial⟩ rfl fun w4 p3 S2 h=>?_))))
  obtain ⟨x2,hx1,hF⟩:=qf hF
  obtain ⟨g1,hx1⟩:=qaY hx1
  refine qei qb 2 h rfl (h.sl 0 rfl).1 (h.sl 0 rfl).2 rfl rfl rfl rfl rfl rfl rfl rfl rfl g1 hx1 rfl fun w5 p4 k3 S3 h=>X0 10 rfl (qh rfl hF ?_ ?_)<;>intro hF
  ·refine X1 6 1 h rfl (qg (t:=26) hF rfl ?_ ?_)<;>intro hF
   ·refine X0 9 rfl (qb2 rfl rfl (X0 4 rfl ?_))
    obtain rfl:=qa hF;replace hF:=hK1
    exact rb h hF rfl
   refine X1 8 1 h rfl (qg (t:=31) hF rfl ?_ ?_)<;>intro hF
   ·refine X0 4 rfl (qb2 rfl rfl (X0 4 rfl ?_))
    obtain rfl:=qa hF;replace hF:=hK1
    exact rb h hF rfl
   refine X1 6 1 h rfl (qh rfl hF ?_ ?_)<;>intro hF
   ·refine X0 4 rfl ?_
    obtain rfl:=qa hF;replace hF:=hK1
    exact rb h hF rfl
   refine X0 6 rfl ?_
   replace h:=h.pick [2] rfl
   exact rK ⟨_,_,_,_,_,_,hF,rfl,h⟩ rfl
  refine X1 6 1 h rfl (qg (t:=38) hF rfl ?_ ?_)<;>intro hF
  ·refine X0 6 rfl (qb2 rfl rfl (X0 4 rfl ?_))
   obtain rfl:=qa hF;replace hF:=hK1
   exact rb h hF rfl
  refine X1 5 1 h rfl (zcB h hF qac rfl fun r1 w6 h hF=>X0 4 rfl (qh rfl hF ?_ ?_))<;>intro hF
  ·refine X0 4 rfl ?_
   obtain rfl:=qa hF;replace hF:=hK1
   exact rb h hF rfl
  refine X0 6 rfl ?_
  replace h:=h.pick [2] rfl
  exact rK ⟨_,_,_,_,_,_,hF,rfl,h⟩ rfl
 refine qr rfl ?_
 obtain rfl:=qa hF;replace hF:=hK1
 refine X0 3 rfl (zcI h hF (qga ⟨_,_,rfl,(h.oldS s1)⟩) rfl fun r2 w7 h hF=>zcB h hF qac rfl fun r3 w8 h hF=>zp1 rfl (qg (t:=48) hF rfl ?_ ?_))<;>intro hF
 ·exact X0 3 rfl (zcB h hF (qd3 (h.own 0 rfl)) rfl fun r4 w9 h hF=>X0 3 rfl (rb h hF rfl))
 exact X0 5 rfl (rb h hF rfl)
def qdc (n:Nat) (c:qp):Option Int :=
 (qbD n c.Am).bind fun r1 =>
 some (W64 (r1-1))
theorem qfD {c:qp} (ha1:GoT.R w (old w) c cs1) {r:Int} (hF:qdc n c=some r):RetV Tryz.prog 200 [GoT.v qp cs1] w r:=by
 obtain ⟨p1,k1,p2,k2,p3,k3,rfl,s1,s2,s3⟩:=qU ha1
 exact zV 7 Tryz.func200 rfl fun h=>zSR (qu h rfl rfl fun w1 bb1 h=>X1 6 0 h rfl (zcI h hF (qga ⟨_,_,rfl,(h.oldS s1)⟩) rfl fun r1 w2 h hF=>X0 3 rfl (ri h hF rfl)))
def qhG (_:Nat) (kind:Int):Option Bool :=
 bif (kind==4) then some true else
 some (kind==5)
theorem qmv {kind:Int}  {r:Bool} (hF:qhG n kind=some r):RetV Tryz.prog 334 [.int .i64 kind] w r:=by
 refine zV 9 Tryz.func334 rfl fun h=>X0 9 rfl (qg (t:=5) hF rfl ?_ ?_)<;>intro hF
 ·exact X0 5 rfl (rb h hF rfl)
 exact X0 7 rfl (rb h hF rfl)
def qfw (n:Nat) (a_n:Int) (v0:Int) (v1:Int):Option Bool :=
 (qam n a_n v0 v1).bind fun r1 =>
 some (!r1)
theorem qkC {a_n:Int} {v0:Int} {v1:Int} {p1:Option Addr} (ha1:GoT.R w (old w) (some v0) [.pointer p1]) {p2:Option Addr} (ha2:GoT.R w (old w) (some v1) [.pointer p2]) {r:Bool} (hF:qfw n a_n v0 v1=some r):RetV Tryz.prog 180 [.int .i64 a_n,.pointer p1,.pointer p2] w r:=by
 obtain ⟨b1,o_1,cs1,rfl,-,hr1,hc1⟩:=PtR.get ha1 rfl
 obtain rfl:=hr1
 obtain ⟨b2,o_2,cs2,rfl,-,hr2,hc2⟩:=PtR.get ha2 rfl
 obtain rfl:=hr2
 exact zV 10 Tryz.func180 rfl fun h=>X0 7 rfl (zc 0 (hc1.below h.below) rfl (zc 0 (hc2.below h.below) rfl (zcB h hF qac rfl fun r1 w1 h hF=>X0 3 rfl (rb h hF rfl))))
def qL (s:(List Int)) (f_0:Int) (f_1:Int):Nat→Int→Option (Flow Int Int)
 | 0,_=>none
 | n+1,i1 =>
  bif decide (i1<(s.length:Int)) then
   (idx s i1).bind fun y1 =>
   (qfw n y1 f_0 f_1).bind fun r1 =>
   bif r1 then some (.ret i1) else
   qL s f_0 f_1 n (W64 (i1+1))
  else
   some (.nxt i1)
def qaq (n:Nat) (s:(List Int)) (f_0:Int) (f_1:Int):Option Int :=
 (qL s f_0 f_1 n 0).bind fun o=>match o with
 | .ret r=>some r
 | .nxt _ =>
  some (-1)
theorem qek {s:(List Int)} {f_0:Int} {f_1:Int} (ha1:GoT.R w (old w) s cs1) {p2:Option Addr} (ha2:GoT.R w (old w) (some f_0) [.pointer p2]) {p3:Option Addr} (ha3:GoT.R w (old w) (some f_1) [.pointer p3]) {r:Int} (hF:qaq n s f_0 f_1=some r):RetV Tryz.prog 176 [GoT.v (List Int) cs1,.func (.func 180) #[] #[.pointer p2,.pointer p3]] w r:=by
 obtain ⟨p1,k1,rfl,s1⟩:=ha1
 obtain ⟨b1,o_1,cs2,rfl,-,hr1,hc1⟩:=PtR.get ha2 rfl
 obtain rfl:=hr1
 obtain ⟨b2,o_2,cs3,rfl,-,hr2,hc2⟩:=PtR.get ha3 rfl
 obtain rfl:=hr2
 refine zV 19 Tryz.func176 rfl fun h=>X0 11 rfl ?_
 obtain ⟨o1,hF,hK1⟩:=qf hF
 refine ql (rL (fun m e w'=>∃ (i1:Int),qL s f_0 f_1 m i1=some o1∧e=[(0,.slice p1 s.length k1),(1,.func (.func 180) #[] #[.pointer (some ⟨b1,o_1,none⟩),.pointer (some ⟨b2,o_2,none⟩)]),(7,.int .i64 (s.length:Int)),(8,.int .i64 i1)]∧SH w w' []) n ⟨_,hF,rfl,h⟩ rfl ?_)
 rintro m1 e1 w1 ⟨i1,hF,rfl,h⟩
 rcases m1 with _|m1
 ·cases hF
 refine X0 5 rfl (qh rfl hF ?_ ?_)<;>intro hF
 ·refine X0 13 rfl ?_
  obtain ⟨y1,hy1,hF,he1,b3,_,q1,cs4,hp1,hq1,rfl,hc4⟩:=s1.ix hF
  refine zxe hp1 hq1 he1 rfl (zc 0 (hc4.below h.below) rfl (zcB h hF (qkC (h.old ha2) (h.old ha3)) rfl fun r1 w2 h hF=>qdf (qh rfl hF ?_ ?_)))<;>intro hF
  ·refine X0 5 rfl ?_
   obtain rfl:=qa hF;replace hF:=hK1
   exact ri h hF rfl
  exact X0 6 rfl (rK ⟨_,hF,rfl,h⟩ rfl)
 refine qr rfl ?_
 obtain rfl:=qa hF;replace hF:=hK1
 exact X0 4 rfl (ri h hF rfl)
def qaZ (n:Nat) (s:(List Int)) (f_0:Int) (f_1:Int):Option Bool :=
 (qaq n s f_0 f_1).bind fun r1 =>
 some (decide (r1 ≥ 0))
theorem qdS {s:(List Int)} {f_0:Int} {f_1:Int} (ha1:GoT.R w (old w) s cs1) {p2:Option Addr} (ha2:GoT.R w (old w) (some f_0) [.pointer p2]) {p3:Option Addr} (ha3:GoT.R w (old w) (some f_1) [.pointer p3]) {r:Bool} (hF:qaZ n s f_0 f_1=some r):RetV Tryz.prog 93 [GoT.v (List Int) cs1,.func (.func 180) #[] #[.pointer p2,.pointer p3]] w r:=by
 obtain ⟨p1,k1,rfl,s1⟩:=ha1
 obtain ⟨b1,o_1,cs2,rfl,-,hr1,hc1⟩:=PtR.get ha2 rfl
 obtain rfl:=hr1
 obtain ⟨b2,o_2,cs3,rfl,-,hr2,hc2⟩:=PtR.get ha3 rfl
 obtain rfl:=hr2
 exact zV 9 Tryz.func93 rfl fun h=>X0 8 rfl (zcI h hF (qek ⟨_,_,rfl,(h.oldS s1)⟩ (h.old ha2) (h.old ha3)) rfl fun r1 w1 h hF=>X0 3 rfl (rb h hF rfl))
def qbK (n:Nat) (list:(List Int)) (low:Int) (high:Int):Option Bool :=
 (qaZ n list low high).bind fun r1 =>
 some (!r1)
theorem qcv {list:(List Int)} {low:Int} {high:Int} (ha1:GoT.R w (old w) list cs1) {r:Bool} (hF:qbK n list low high=some r):RetV Tryz.prog 98 [GoT.v (List Int) cs1,.int .i64 low,.int .i64 high] w r:=by
 obtain ⟨p1,k1,rfl,s1⟩:=ha1
 exact zV 11 Tryz.func98 rfl fun h=>zSR (qu h rfl rfl fun w1 bb1 h=>qu h rfl rfl fun w2 bb2 h=>X0 6 rfl (zcB h hF (qdS ⟨_,_,rfl,(h.oldS s1)⟩ (qiu (x:=low) 1 h rfl rfl) (qiu (x:=high) 0 h rfl rfl)) rfl fun r1 w3 h hF=>X0 3 rfl (rb h hF rfl)))
def qaU (list:(List Int)):Nat→Int→Option (Flow Bool Int)
 | 0,_=>none
 | n+1,i1 =>
  bif decide (i1<(list.length:Int)) then
   (idx list (W64 (i1-1))).bind fun y1 =>
   (idx list i1).bind fun y2 =>
   bif decide (y1 ≥ y2) then some (.ret false) else
   qaU list n (W64 (i1+1))
  else
   some (.nxt i1)
def qeY (n:Nat) (list:(List Int)):Option Bool :=
 (qaU list n 1).bind fun o=>match o with
 | .ret r=>some r
 | .nxt _ =>
  some true
theorem qjP {list:(List Int)} (ha1:GoT.R w (old w) list cs1) {r:Bool} (hF:qeY n list=some r):RetV Tryz.prog 145 [GoT.v (List Int) cs1] w r:=by
 obtain ⟨p1,k1,rfl,s1⟩:=ha1
 refine zV 20 Tryz.func145 rfl fun h=>X0 9 rfl ?_
 obtain ⟨o1,hF,hK1⟩:=qf hF
 refine ql (rL (fun m e w'=>∃ (i1:Int),qaU list m i1=some o1∧e=[(0,.slice p1 list.length k1),(3,.int .i64 i1)]∧SH w w' []) n ⟨_,hF,rfl,h⟩ rfl ?_)
 rintro m1 e1 w1 ⟨i1,hF,rfl,h⟩
 rcases m1 with _|m1
 ·cases hF
 refine X0 8 rfl (qh rfl hF ?_ ?_)<;>intro hF
 ·refine X0 4 rfl (rD (zd3 rfl ?_))
  obtain ⟨y1,hy1,hF,he1,b1,_,q1,cs2,hp1,hq1,rfl,hc2⟩:=s1.ix hF
  refine zdxe hp1 hq1 he1 rfl (zdc 0 (hc2.below h.below) rfl (zd2 rfl ?_))
  obtain ⟨y2,hy2,hF,he2,b2,_,q2,cs3,hp2,hq2,rfl,hc3⟩:=s1.ix hF
  refine zdxe hp2 hq2 he2 rfl (zdc 0 (hc3.below h.below) rfl (zd1 rfl (dN h fun w2 h=>qh rfl hF ?_ ?_)))<;>intro hF
  ·refine X0 4 rfl ?_
   obtain rfl:=qa hF;replace hF:=hK1
   exact rb h hF rfl
  exact X0 7 rfl (rK ⟨_,hF,rfl,h⟩ rfl)
 refine qr rfl ?_
 obtain rfl:=qa hF;replace hF:=hK1
 exact X0 4 rfl (rb h hF rfl)
def qaR (_:Nat) (list:(List Int)):Option Int :=
 some (list.length:Int)
theorem qbA {list:(List Int)} (ha1:GoT.R w (old w) list cs1) {r:Int} (hF:qaR n list=some r):RetV Tryz.prog 188 [GoT.v (List Int) cs1] w r:=by
 obtain ⟨p1,k1,rfl,s1⟩:=ha1
 exact zV 5 Tryz.func188 rfl fun h=>X0 10 rfl (ri h hF rfl)
def qht (n:Nat) (list:(List Int)):Option Bool :=
 (qaR n list).bind fun r1 =>
 (qam n r1 1 4).bind fun r2 =>
 bif r2 then
  (qbK n list 0 100000).bind fun r3 =>
  bif r3 then
   (qeY n list).bind fun r4 =>
   some r4
  else
   some false
 else
  some false
theorem qj1 {list:(List Int)} (ha1:GoT.R w (old w) list cs1) {r:Bool} (hF:qht n list=some r):RetV Tryz.prog 354 [GoT.v (List Int) cs1] w r:=by
 obtain ⟨p1,k1,rfl,s1⟩:=ha1
 refine zV 14 Tryz.func354 rfl fun h=>X0 7 rfl (zcI h hF (qbA ⟨_,_,rfl,(h.oldS s1)⟩) rfl fun r1 w1 h hF=>zcB h hF qac rfl fun r2 w2 h hF=>zp1 rfl (qg (t:=6) hF rfl ?_ ?_))<;>intro hF
 ·refine X0 3 rfl (zcB h hF (qcv ⟨_,_,rfl,(h.oldS s1)⟩) rfl fun r3 w3 h hF=>zp2 rfl (qg (t:=10) hF rfl ?_ ?_))<;>intro hF
  ·exact X0 3 rfl (zcB h hF (qjP ⟨_,_,rfl,(h.oldS s1)⟩) rfl fun r4 w4 h hF=>X0 3 rfl (rb h hF rfl))
  exact X0 5 rfl (rb h hF rfl)
 exact X0 9 rfl (rb h hF rfl)
def qhQ (n:Nat) (t:qq):Option Bool :=
 (qht n t.Be).bind fun r1 =>
 bif r1 then
  (qht n t.Bf).bind fun r2 =>
  bif r2 then
   bif ((t.Av.length:Int)==(W64 ((t.Be.length:Int)*(t.Bf.length:Int)))) then
    (qbK n t.Av (-1000000) 1000000).bind fun r3 =>
    some r3
   else
    some false
  else
   some false
 else
  some false
theorem qmo {t:qq} (ha1:GoT.R w (old w) t cs1) {r:Bool} (hF:qhQ n t=some r):RetV Tryz.prog 348 [GoT.v qq cs1] w r:=by
 obtain ⟨p1,k1,p2,k2,p3,k3,rfl,s1,s2,s3⟩:=qaX ha1
 refine zV 29 Tryz.func348 rfl fun h=>zSR (qu h rfl rfl fun w1 bb1 h=>X1 6 0 h rfl (zcB h hF (qj1 ⟨_,_,rfl,(h.oldS s1)⟩) rfl fun r1 w2 h hF=>zp1 rfl (qg (t:=6) hF rfl ?_ ?_)))<;>intro hF
 ·refine X1 5 0 h rfl (zcB h hF (qj1 ⟨_,_,rfl,(h.oldS s2)⟩) rfl fun r2 w3 h hF=>zp2 rfl (qg (t:=11) hF rfl ?_ ?_))<;>intro hF
  ·refine X3 24 0 0 0 h rfl (qg (t:=24) hF rfl ?_ ?_)<;>intro hF
   ·exact X1 5 0 h rfl (zcB h hF (qcv ⟨_,_,rfl,(h.oldS s3)⟩) rfl fun r3 w4 h hF=>X0 3 rfl (rb h hF rfl))
   exact X0 6 rfl (rb h hF rfl)
  exact X0 19 rfl (rb h hF rfl)
 exact X0 24 rfl (rb h hF rfl)
def qbT (x:(List Int)):Nat→Int→Int→Option (Int × Int)
 | 0,_,_=>none
 | n+1,i1,i2 =>
  bif decide (i2<(x.length:Int)) then
   (idx x i2).bind fun y2 =>
   qbT x n (if y2<i1 then y2 else i1) (W64 (i2+1))
  else
   some (i1,i2)
def qfr (n:Nat) (x:(List Int)):Option Int :=
 (
  bif decide ((x.length:Int)<1) then none else
  some ()).bind fun _ =>
 (idx x 0).bind fun y1 =>
 (qbT x n y1 1).bind fun o=>match o with
 | (i1,_) =>
  some i1
theorem qku {x:(List Int)} (ha1:GoT.R w (old w) x cs1) {r:Int} (hF:qfr n x=some r):RetV Tryz.prog 349 [GoT.v (List Int) cs1] w r:=by
 obtain ⟨p1,k1,rfl,s1⟩:=ha1
 refine zV 25 Tryz.func349 rfl fun h=>X0 11 rfl ?_
 obtain ⟨KF1,hKF1,o2,hF,hK2⟩:=bindE hF
 refine qcu (fun e w'=>KF1 ()=some r∧e=[(0,.slice p1 x.length k1)]∧SH w w' []) ?_ ?_
 ·refine qh rfl hF ?_ ?_<;>intro hF
  ·refine qiZ ?_
   cases hF
  refine qin ?_
  obtain rfl:=qa hF
  exact rG ⟨hK2,rfl,h⟩ rfl
 rintro e2 w2 ⟨hF,rfl,h⟩
 subst hKF1
 refine X0 3 rfl ?_
 obtain ⟨y1,hy1,hF,he1,b1,_,q1,cs2,hp1,hq1,rfl,hc1⟩:=s1.ix hF
 refine zxe hp1 hq1 he1 rfl (zc 0 (hc1.below h.below) rfl (X0 7 rfl ?_))
 obtain ⟨o1,hF,hK1⟩:=qf hF
 refine ql (rL (fun m e w'=>∃ (i1:Int) (i2:Int),qbT x m i1 i2=some o1∧e=[(0,.slice p1 x.length k1),(3,.int .i64 i1),(4,.int .i64 i2)]∧SH w w' []) n ⟨_,_,hF,rfl,h⟩ rfl ?_)
 rintro m1 e1 w1 ⟨i1,i2,hF,rfl,h⟩
 rcases m1 with _|m1
 ·cases hF
 refine X0 8 rfl (qh rfl hF ?_ ?_)<;>intro hF
 ·refine X0 7 rfl ?_
  obtain ⟨y2,hy2,hF,he2,b2,_,q2,cs3,hp2,hq2,rfl,hc3⟩:=s1.ix hF
  exact zxe hp2 hq2 he2 rfl (zc 0 (hc3.below h.below) rfl (X0 9 rfl (rK ⟨_,_,hF,rfl,h⟩ rfl)))
 refine qr rfl ?_
 obtain rfl:=qa hF;replace hF:=hK1
 exact X0 5 rfl (ri h hF rfl)
def qfs (n:Nat) (t:qq) (v0:Bool):Option Bool :=
 (qhQ n t).bind fun r1 =>
 bif (!r1) then some true else
 bif v0 then
  (qfr n t.Av).bind fun r2 =>
  some (decide (r2<0))
 else
  some false
theorem qkG {t:qq} {v0:Bool} (ha1:GoT.R w (old w) t cs1) {p4:Option Addr} (ha2:GoT.R w (old w) (some v0) [.pointer p4]) {r:Bool} (hF:qfs n t v0=some r):RetV Tryz.prog 347 [GoT.v qq cs1,.pointer p4] w r:=by
 obtain ⟨p1,k1,p2,k2,p3,k3,rfl,s1,s2,s3⟩:=qaX ha1
 obtain ⟨b1,o_1,cs2,rfl,-,hr1,hc1⟩:=PtR.get ha2 rfl
 obtain rfl:=hr1
 refine zV 16 Tryz.func347 rfl fun h=>zSR (qu h rfl rfl fun w1 bb1 h=>X1 5 0 h rfl (zcB h hF (qmo (h.old ha1)) rfl fun r1 w2 h hF=>zp2 rfl (qg (t:=7) hF rfl ?_ ?_)))<;>intro hF
 ·exact X0 10 rfl (rb h hF rfl)
 refine X0 1 rfl (zc 0 (hc1.below h.below) rfl (X0 2 rfl (qg (t:=9) hF rfl ?_ ?_)))<;>intro hF
 ·exact X1 5 0 h rfl (zcI h hF (qku ⟨_,_,rfl,(h.oldS s3)⟩) rfl fun r2 w3 h hF=>X0 7 rfl (rb h hF rfl))
 exact X0 9 rfl (rb h hF rfl)
def qE (s:(List qq)) (f_0:Bool):Nat→Int→Option (Flow Int Int)
 | 0,_=>none
 | n+1,i1 =>
  bif decide (i1<(s.length:Int)) then
   (idx s i1).bind fun y1 =>
   (qfs n y1 f_0).bind fun r1 =>
   bif r1 then some (.ret i1) else
   qE s f_0 n (W64 (i1+1))
  else
   some (.nxt i1)
def qad (n:Nat) (s:(List qq)) (f_0:Bool):Option Int :=
 (qE s f_0 n 0).bind fun o=>match o with
 | .ret r=>some r
 | .nxt _ =>
  some (-1)
theorem qdH {s:(List qq)} {f_0:Bool} (ha1:GoT.R w (old w) s cs1) {p2:Option Addr} (ha2:GoT.R w (old w) (some f_0) [.pointer p2]) {r:Int} (hF:qad n s f_0=some r):RetV Tryz.prog 353 [GoT.v (List qq) cs1,.func (.func 347) #[] #[.pointer p2]] w r:=by
 obtain ⟨p1,k1,rfl,s1⟩:=ha1
 obtain ⟨b1,o_1,cs2,rfl,-,hr1,hc1⟩:=PtR.get ha2 rfl
 obtain rfl:=hr1
 refine zV 19 Tryz.func353 rfl fun h=>X0 11 rfl ?_
 obtain ⟨o1,hF,hK1⟩:=qf hF
 refine ql (rL (fun m e w'=>∃ (i1:Int),qE s f_0 m i1=some o1∧e=[(0,.slice p1 s.length k1),(1,.func (.func 347) #[] #[.pointer (some ⟨b1,o_1,none⟩)]),(7,.int .i64 (s.length:Int)),(8,.int .i64 i1)]∧SH w w' []) n ⟨_,hF,rfl,h⟩ rfl ?_)
 rintro m1 e1 w1 ⟨i1,hF,rfl,h⟩
 rcases m1 with _|m1
 ·cases hF
 refine X0 5 rfl (qh rfl hF ?_ ?_)<;>intro hF
 ·refine X0 13 rfl ?_
  obtain ⟨y1,hy1,hF,he1,b2,_,q1,cs3,hp1,hq1,hr2,hc3⟩:=s1.ix hF
  obtain ⟨p3,k2,p4,k3,p5,k4,rfl,s2,s3,s4⟩:=qaX hr2
  refine zxe hp1 hq1 he1 rfl (zc 0 (hc3.below h.below) rfl (zcB h hF (qkG (qgM y1 (h.oldS s2) (h.oldS s3) (h.oldS s4)) (h.old ha2)) rfl fun r1 w2 h hF=>qdf (qh rfl hF ?_ ?_)))<;>intro hF
  ·refine X0 5 rfl ?_
   obtain rfl:=qa hF;replace hF:=hK1
   exact ri h hF rfl
  exact X0 6 rfl (rK ⟨_,hF,rfl,h⟩ rfl)
 refine qr rfl ?_
 obtain rfl:=qa hF;replace hF:=hK1
 exact X0 4 rfl (ri h hF rfl)
def qaw (n:Nat) (s:(List qq)) (f_0:Bool):Option Bool :=
 (qad n s f_0).bind fun r1 =>
 some (decide (r1 ≥ 0))
theorem qdh {s:(List qq)} {f_0:Bool} (ha1:GoT.R w (old w) s cs1) {p2:Option Addr} (ha2:GoT.R w (old w) (some f_0) [.pointer p2]) {r:Bool} (hF:qaw n s f_0=some r):RetV Tryz.prog 346 [GoT.v (List qq) cs1,.func (.func 347) #[] #[.pointer p2]] w r:=by
 obtain ⟨p1,k1,rfl,s1⟩:=ha1
 obtain ⟨b1,o_1,cs2,rfl,-,hr1,hc1⟩:=PtR.get ha2 rfl
 obtain rfl:=hr1
 exact zV 9 Tryz.func346 rfl fun h=>X0 8 rfl (zcI h hF (qdH ⟨_,_,rfl,(h.oldS s1)⟩ (h.old ha2)) rfl fun r1 w1 h hF=>X0 3 rfl (rb h hF rfl))
def qeg (n:Nat) (list:(List qq)) (positive:Bool):Option Bool :=
 bif ((list.length:Int)==2) then
  (qaw n list positive).bind fun r1 =>
  some (!r1)
 else
  some false
theorem qgu {list:(List qq)} {positive:Bool} (ha1:GoT.R w (old w) list cs1) {r:Bool} (hF:qeg n list positive=some r):RetV Tryz.prog 335 [GoT.v (List qq) cs1,.bool positive] w r:=by
 obtain ⟨p1,k1,rfl,s1⟩:=ha1
 refine zV 14 Tryz.func335 rfl fun h=>zSR (qu h rfl rfl fun w1 bb1 h=>X0 8 rfl (qg (t:=8) hF rfl ?_ ?_))<;>intro hF
 ·exact X0 5 rfl (zcB h hF (qdh ⟨_,_,rfl,(h.oldS s1)⟩ (qiu (x:=positive) 0 h rfl rfl)) rfl fun r1 w2 h hF=>X0 5 rfl (rb h hF rfl))
 exact X0 7 rfl (rb h hF rfl)
def qgm (_:Nat) (p:qO):Option Bool :=
 some p.Bh
theorem qkc {p:qO} (ha1:GoT.R w (old w) p cs1) {r:Bool} (hF:qgm n p=some r):RetV Tryz.prog 351 [GoT.v qO cs1] w r:=by
 obtain rfl:=qau ha1
 exact zV 5 Tryz.func351 rfl fun h=>zSR (qu h rfl rfl fun w1 bb1 h=>X1 8 0 h rfl (rb h hF rfl))
def qG (s:(List qO)):Nat→Int→Option (Flow Int Int)
 | 0,_=>none
 | n+1,i1 =>
  bif decide (i1<(s.length:Int)) then
   (idx s i1).bind fun y1 =>
   (qgm n y1).bind fun r1 =>
   bif r1 then some (.ret i1) else
   qG s n (W64 (i1+1))
  else
   some (.nxt i1)
def qaT (n:Nat) (s:(List qO)):Option Int :=
 (qG s n 0).bind fun o=>match o with
 | .ret r=>some r
 | .nxt _ =>
  some (-1)
theorem qdP {s:(List qO)} (ha1:GoT.R w (old w) s cs1) {r:Int} (hF:qaT n s=some r):RetV Tryz.prog 350 [GoT.v (List qO) cs1,.func (.func 351) #[] #[]] w r:=by
 obtain ⟨p1,k1,rfl,s1⟩:=ha1
 refine zV 19 Tryz.func350 rfl fun h=>X0 11 rfl ?_
 obtain ⟨o1,hF,hK1⟩:=qf hF
 refine ql (rL (fun m e w'=>∃ (i1:Int),qG s m i1=some o1∧e=[(0,.slice p1 s.length k1),(1,.func (.func 351) #[] #[]),(7,.int .i64 (s.length:Int)),(8,.int .i64 i1)]∧SH w w' []) n ⟨_,hF,rfl,h⟩ rfl ?_)
 rintro m1 e1 w1 ⟨i1,hF,rfl,h⟩
 rcases m1 with _|m1
 ·cases hF
 refine X0 5 rfl (qh rfl hF ?_ ?_)<;>intro hF
 ·refine X0 13 rfl ?_
  obtain ⟨y1,hy1,hF,he1,b1,_,q1,cs2,hp1,hq1,hr1,hc2⟩:=s1.ix hF
  obtain rfl:=qau hr1
  refine zxe hp1 hq1 he1 rfl (zc 0 (hc2.below h.below) rfl (zcB h hF (qkc (qcG y1)) rfl fun r1 w2 h hF=>qdf (qh rfl hF ?_ ?_)))<;>intro hF
  ·refine X0 5 rfl ?_
   obtain rfl:=qa hF;replace hF:=hK1
   exact ri h hF rfl
  exact X0 6 rfl (rK ⟨_,hF,rfl,h⟩ rfl)
 refine qr rfl ?_
 obtain rfl:=qa hF;replace hF:=hK1
 exact X0 4 rfl (ri h hF rfl)
def qfQ (n:Nat) (c:qp):Option Int :=
 (qaT n c.Am).bind fun r1 =>
 some r1
theorem qkR {c:qp} (ha1:GoT.R w (old w) c cs1) {r:Int} (hF:qfQ n c=some r):RetV Tryz.prog 336 [GoT.v qp cs1] w r:=by
 obtain ⟨p1,k1,p2,k2,p3,k3,rfl,s1,s2,s3⟩:=qU ha1
 exact zV 6 Tryz.func336 rfl fun h=>zSR (qu h rfl rfl fun w1 bb1 h=>X1 6 0 h rfl (zcI h hF (qdP ⟨_,_,rfl,(h.oldS s1)⟩) rfl fun r1 w2 h hF=>X0 2 rfl (ri h hF rfl)))
def qe0 (n:Nat) (c:qp) (pin:Int):Option Bool :=
 (qdc n c).bind fun r1 =>
 (qam n pin 0 (W64 (r1-1))).bind fun r2 =>
 some r2
theorem qhn {c:qp} {pin:Int} (ha1:GoT.R w (old w) c cs1) {r:Bool} (hF:qe0 n c pin=some r):RetV Tryz.prog 337 [GoT.v qp cs1,.int .i64 pin] w r:=by
 obtain ⟨p1,k1,p2,k2,p3,k3,rfl,s1,s2,s3⟩:=qU ha1
 exact zV 10 Tryz.func337 rfl fun h=>zSR (qu h rfl rfl fun w1 bb1 h=>X1 6 0 h rfl (zcI h hF (qfD (h.old ha1)) rfl fun r1 w2 h hF=>zp1 rfl (zcB h hF qac rfl fun r2 w3 h hF=>X0 2 rfl (rb h hF rfl))))
def qfX (n:Nat) (a_0:qp) (a_1:qF):Option Bool :=
 (qhG n a_1.Ay).bind fun r1 =>
 bif r1 then
  (
   bif (a_1.Bi==0) then
    bif ((a_1.Az.length:Int)==0) then
     (qeg n a_1.Bb false).bind fun r2 =>
     bif r2 then
      (qfQ n a_0).bind fun r3 =>
      bif (a_1.Bd==r3) then
       bif decide (a_1.Bd ≥ 0) then
        (qe0 n a_0 a_1.To).bind fun r4 =>
        bif r4 then some (a_1.To != a_1.Bd) else
        some false
       else
        some false
      else
       some false
     else
      some false
    else
     some false
   else
    some false).bind fun b1 =>
  some b1
 else
  (
   (qeg n a_1.Bb true).bind fun r6 =>
   bif (!r6) then some true else
   (qeg n a_1.Az true).bind fun r7 =>
   bif (!r7) then some true else
   (qdc n a_0).bind fun r8 =>
   bif (a_1.To != r8) then some true else
   (qe0 n a_0 a_1.Bd).bind fun r9 =>
   some (!r9)).bind fun b2 =>
  bif b2 then some false else
  bif (a_1.Ay==1) then
   (idx a_0.Am a_1.Bd).bind fun y1 =>
   bif (!y1.Bh) then
    (qam n a_1.Bi 1 3).bind fun r5 =>
    some r5
   else
    some false
  else
   (
    bif (a_1.Ay==2) then some (a_1.Ay==2) else
    some (a_1.Ay==3)).bind fun b4 =>
   bif b4 then
    (idx a_0.Am a_1.Bd).bind fun y2 =>
    bif y2.Bh then some (a_1.Bi==0) else
    some false
   else
    some false
theorem qkY {a_0:qp} {a_1:qF} (ha1:GoT.R w (old w) a_0 cs1) (ha2:GoT.R w (old w) a_1 cs2) {r:Bool} (hF:qfX n a_0 a_1=some r):RetV Tryz.prog 319 [GoT.v qp cs1,GoT.v qF cs2] w r:=by
 obtain ⟨p1,k1,p2,k2,p3,k3,rfl,s1,s2,s3⟩:=qU ha1
 obtain ⟨p4,k4,p5,k5,rfl,s4,s5⟩:=qag ha2
 refine zV 103 Tryz.func319 rfl fun h=>zSR (qu h rfl rfl fun w1 bb1 h=>qu h rfl rfl fun w2 bb2 h=>X1 7 0 h rfl (zcB h hF qmv rfl fun r1 w3 h hF=>qdf (qh rfl hF ?_ ?_)))<;>intro hF
 ·refine qej ?_
  obtain ⟨KF1,hKF1,o1,hF,hK1⟩:=bindE hF
  refine qcu (fun e w'=>∃ (b1:Bool),KF1 b1=some r∧e=[(4,.bool b1)]∧SH w w' []) ?_ ?_
  ·refine rD (Y1 2 0 h rfl ?_)
   refine zd2 rfl (qba (t:=11) hF rfl ?_ ?_)<;>intro hF
   ·refine Y1 4 0 h rfl ?_
    refine Y0 6 rfl (qba (t:=17) hF rfl ?_ ?_)<;>intro hF
    ·refine Y1 4 0 h rfl ?_
     refine Y0 1 rfl ?_
     obtain ⟨r2,hr2,hF⟩:=qf hF
     refine qbF r2 (vsB _) (cB 335 rfl) (fun _ hb=>qgu ⟨_,_,rfl,((h.ext hb).oldS s4)⟩ hr2) rfl rfl rfl rfl (zd2 rfl (qba (t:=22) hF rfl ?_ ?_))<;>intro hF
     ·refine Y1 4 0 h rfl ?_
      refine Y1 2 1 h rfl ?_
      refine Y0 1 rfl ?_
      obtain ⟨r3,hr3,hF⟩:=qf hF
      refine qbF r3 (vsI _) (cB 336 rfl) (fun _ hb=>qkR ((h.ext hb).old ha1) hr3) rfl rfl rfl rfl (Y0 4 rfl (qba (t:=29) hF rfl ?_ ?_))<;>intro hF
      ·refine Y1 4 0 h rfl ?_
       refine Y0 4 rfl (qba (t:=34) hF rfl ?_ ?_)<;>intro hF
       ·refine Y1 2 1 h rfl ?_
        refine Y1 4 0 h rfl ?_
        refine Y0 1 rfl ?_
        obtain ⟨r4,hr4,hF⟩:=qf hF
        refine qbF r4 (vsB _) (cB 337 rfl) (fun _ hb=>qhn ((h.ext hb).old ha1) hr4) rfl rfl rfl rfl (zd2 rfl (qba (t:=40) hF rfl ?_ ?_))<;>intro hF
        ·refine Y1 4 0 h rfl ?_
         refine Y1 4 0 h rfl ?_
         refine Y0 4 rfl (dN h fun w4 h=>?_)
         replace h:=h.pick [] rfl
         obtain rfl:=qa hF
         exact rG ⟨_,hK1,rfl,h⟩ rfl
        refine Y0 7 rfl (dN h fun w5 h=>?_)
        replace h:=h.pick [] rfl
        obtain rfl:=qa hF
        exact rG ⟨_,hK1,rfl,h⟩ rfl
       refine Y0 13 rfl (dN h fun w6 h=>?_)
       replace h:=h.pick [] rfl
       obtain rfl:=qa hF
       exact rG ⟨_,hK1,rfl,h⟩ rfl
      refine Y0 18 rfl (dN h fun w7 h=>?_)
      replace h:=h.pick [] rfl
      obtain rfl:=qa hF
      exact rG ⟨_,hK1,rfl,h⟩ rfl
     refine Y0 25 rfl (dN h fun w8 h=>?_)
     replace h:=h.pick [] rfl
     obtain rfl:=qa hF
     exact rG ⟨_,hK1,rfl,h⟩ rfl
    refine Y0 30 rfl (dN h fun w9 h=>?_)
    replace h:=h.pick [] rfl
    obtain rfl:=qa hF
    exact rG ⟨_,hK1,rfl,h⟩ rfl
   refine Y0 36 rfl (dN h fun w10 h=>?_)
   replace h:=h.pick [] rfl
   obtain rfl:=qa hF
   exact rG ⟨_,hK1,rfl,h⟩ rfl
  rintro e1 w11 ⟨b1,hF,rfl,h⟩
  subst hKF1
  exact rb h hF rfl
 refine zKSS ?_
 obtain ⟨KF3,hKF3,o3,hF,hK3⟩:=bindE hF
 refine qcu (fun e w'=>∃ (b2:Bool),KF3 b2=some r∧e=[(2,.pointer (some ⟨bb1,0,none⟩)),(3,.pointer (some ⟨bb2,0,none⟩)),(70,.bool b2)]∧SH w w' [Ch.box bb2 (qjs a_1 p4 p5 k4 k5) 266,Ch.box bb1 (qcT a_0 p1 p2 p3 k1 k2 k3) 263]) ?_ ?_
 ·refine rD (Y1 2 0 h rfl ?_)
  obtain ⟨r6,hr8,hF⟩:=qf hF
  refine qbF r6 (vsB _) (cB 335 rfl) (fun _ hb=>qgu ⟨_,_,rfl,((h.ext hb).oldS s4)⟩ hr8) rfl rfl rfl rfl (zd2 rfl (qba (t:=51) hF rfl ?_ ?_))<;>intro hF
  ·refine Y0 19 rfl (dN h fun w14 h=>?_)
   obtain rfl:=qa hF
   exact rG ⟨_,hK3,rfl,h⟩ rfl
  refine Y1 4 0 h rfl ?_
  refine Y0 1 rfl ?_
  obtain ⟨r7,hr9,hF⟩:=qf hF
  refine qbF r7 (vsB _) (cB 335 rfl) (fun _ hb=>qgu ⟨_,_,rfl,((h.ext hb).oldS s5)⟩ hr9) rfl rfl rfl rfl (Y0 4 rfl (qba (t:=57) hF rfl ?_ ?_))<;>intro hF
  ·refine Y0 13 rfl (dN h fun w15 h=>?_)
   obtain rfl:=qa hF
   exact rG ⟨_,hK3,rfl,h⟩ rfl
  refine Y1 4 0 h rfl ?_
  refine Y1 2 1 h rfl ?_
  refine Y0 1 rfl ?_
  obtain ⟨r8,hr10,hF⟩:=qf hF
  refine qbF r8 (vsI _) (cB 200 rfl) (fun _ hb=>qfD ((h.ext hb).old ha1) hr10) rfl rfl rfl rfl (Y0 4 rfl (qba (t:=64) hF rfl ?_ ?_))<;>intro hF
  ·refine Y0 6 rfl (dN h fun w16 h=>?_)
   obtain rfl:=qa hF
   exact rG ⟨_,hK3,rfl,h⟩ rfl
  refine Y1 2 1 h rfl ?_
  refine Y1 4 0 h rfl ?_
  refine Y0 1 rfl ?_
  obtain ⟨r9,hr11,hF⟩:=qf hF
  refine qbF r9 (vsB _) (cB 337 rfl) (fun _ hb=>qhn ((h.ext hb).old ha1) hr11) rfl rfl rfl rfl (Y0 3 rfl (dN h fun w17 h=>?_))
  obtain rfl:=qa hF
  exact rG ⟨_,hK3,rfl,h⟩ rfl
 rintro e3 w18 ⟨b2,hF,rfl,h⟩
 subst hKF3
 refine qh rfl hF ?_ ?_<;>intro hF
 ·exact X0 4 rfl (rb h hF rfl)
 refine X1 13 0 h rfl (qh rfl hF ?_ ?_)<;>intro hF
 ·refine X2 6 1 0 h rfl ?_
  obtain ⟨y1,hy1,hF,he1,b3,_,q1,cs3,hp1,hq1,hr5,hc4⟩:=s1.ix hF
  obtain rfl:=qau hr5
  refine zxe hp1 hq1 he1 rfl (zp1 rfl (zc 3 (hc4.below h.below) rfl (zp2 rfl (qg (t:=83) hF rfl ?_ ?_))))<;>intro hF
  ·exact X1 5 0 h rfl (zcB h hF qac rfl fun r5 w12 h hF=>X0 3 rfl (rb h hF rfl))
  exact X0 6 rfl (rb h hF rfl)
 refine X0 6 rfl ?_
 obtain ⟨KF2,hKF2,o2,hF,hK2⟩:=bindE hF
 refine qcu (fun e w'=>∃ (b4:Bool),KF2 b4=some r∧e=[(2,.pointer (some ⟨bb1,0,none⟩)),(3,.pointer (some ⟨bb2,0,none⟩)),(88,.bool b4)]∧SH w w' [Ch.box bb2 (qjs a_1 p4 p5 k4 k5) 266,Ch.box bb1 (qcT a_0 p1 p2 p3 k1 k2 k3) 263]) ?_ ?_
 ·refine qh rfl hF ?_ ?_<;>intro hF
  ·refine qin ?_
   obtain rfl:=qa hF
   exact rG ⟨_,hK2,rfl,h⟩ rfl
  refine X0 4 rfl ?_
  obtain rfl:=qa hF
  exact rG ⟨_,hK2,rfl,h⟩ rfl
 rintro e2 w13 ⟨b4,hF,rfl,h⟩
 subst hKF2
 refine qh rfl hF ?_ ?_<;>intro hF
 ·refine X2 6 1 0 h rfl ?_
  obtain ⟨y2,hy2,hF,he2,b5,_,q2,cs4,hp2,hq2,hr7,hc6⟩:=s1.ix hF
  obtain rfl:=qau hr7
  refine zxe hp2 hq2 he2 rfl (zp1 rfl (zc 3 (hc6.below h.below) rfl (zp1 rfl (qg (t:=98) hF rfl ?_ ?_))))<;>intro hF
  ·exact X1 9 0 h rfl (rb h hF rfl)
  exact X0 6 rfl (rb h hF rfl)
 exact X0 6 rfl (rb h hF rfl)
end Go.Fw


namespace Go.Fw
open Go Go.Proofs
open Go.RowKit (Below)
set_option maxRecDepth 100000
set_option maxHeartbeats 1600000
variable {n:Nat} {w:World} {cs1 cs2 cs3 cs4 cs5 cs6 cs7 cs8 cs9:List Value}
def qdU (_:Nat) (a_o:qF) (v0:qF):Option Bool :=
 bif (a_o.Ay==v0.Ay) then
  bif (a_o.Bd==v0.Bd) then some (a_o.To==v0.To) else
  some false
 else
  some false
theorem qju {a_o:qF} {v0:qF} (ha1:GoT.R w (old w) a_o cs1) {p3:Option Addr} (ha2:GoT.R w (old w) (some v0) [.pointer p3]) {r:Bool} (hF:qdU n a_o v0=some r):RetV Tryz.prog 321 [GoT.v qF cs1,.pointer p3] w r:=by
 obtain ⟨p1,k1,p2,k2,rfl,s1,s2⟩:=qag ha1
 obtain ⟨b1,o_1,cs2,rfl,-,hr1,hc1⟩:=PtR.get ha2 rfl
 obtain ⟨p4,k3,p5,k4,rfl,s3,s4⟩:=qag hr1
 refine zV 23 Tryz.func321 rfl fun h=>zSR (qu h rfl rfl fun w1 bb1 h=>X1 7 0 h rfl (zc 0 (hc1.below h.below) rfl (zp2 rfl (qg (t:=9) hF rfl ?_ ?_))))<;>intro hF
 ·refine X1 7 0 h rfl (zc 1 (hc1.below h.below) rfl (X0 4 rfl (qg (t:=16) hF rfl ?_ ?_)))<;>intro hF
  ·exact X1 7 0 h rfl (zc 2 (hc1.below h.below) rfl (X0 5 rfl (rb h hF rfl)))
  exact X0 8 rfl (rb h hF rfl)
 exact X0 15 rfl (rb h hF rfl)
def qC (s:(List qF)) (f_0:qF):Nat→Int→Option (Flow Int Int)
 | 0,_=>none
 | n+1,i1 =>
  bif decide (i1<(s.length:Int)) then
   (idx s i1).bind fun y1 =>
   (qdU n y1 f_0).bind fun r1 =>
   bif r1 then some (.ret i1) else
   qC s f_0 n (W64 (i1+1))
  else
   some (.nxt i1)
def qaE (n:Nat) (s:(List qF)) (f_0:qF):Option Int :=
 (qC s f_0 n 0).bind fun o=>match o with
 | .ret r=>some r
 | .nxt _ =>
  some (-1)
theorem qdp {s:(List qF)} {f_0:qF} (ha1:GoT.R w (old w) s cs1) {p2:Option Addr} (ha2:GoT.R w (old w) (some f_0) [.pointer p2]) {r:Int} (hF:qaE n s f_0=some r):RetV Tryz.prog 192 [GoT.v (List qF) cs1,.func (.func 321) #[] #[.pointer p2]] w r:=by
 obtain ⟨p1,k1,rfl,s1⟩:=ha1
 obtain ⟨b1,o_1,cs2,rfl,-,hr1,hc1⟩:=PtR.get ha2 rfl
 obtain ⟨p3,k2,p4,k3,rfl,s2,s3⟩:=qag hr1
 refine zV 19 Tryz.func192 rfl fun h=>X0 11 rfl ?_
 obtain ⟨o1,hF,hK1⟩:=qf hF
 refine ql (rL (fun m e w'=>∃ (i1:Int),qC s f_0 m i1=some o1∧e=[(0,.slice p1 s.length k1),(1,.func (.func 321) #[] #[.pointer (some ⟨b1,o_1,none⟩)]),(7,.int .i64 (s.length:Int)),(8,.int .i64 i1)]∧SH w w' []) n ⟨_,hF,rfl,h⟩ rfl ?_)
 rintro m1 e1 w1 ⟨i1,hF,rfl,h⟩
 rcases m1 with _|m1
 ·cases hF
 refine X0 5 rfl (qh rfl hF ?_ ?_)<;>intro hF
 ·refine X0 13 rfl ?_
  obtain ⟨y1,hy1,hF,he1,b2,_,q1,cs3,hp1,hq1,hr2,hc3⟩:=s1.ix hF
  obtain ⟨p5,k4,p6,k5,rfl,s4,s5⟩:=qag hr2
  refine zxe hp1 hq1 he1 rfl (zc 0 (hc3.below h.below) rfl (zcB h hF (qju (qfL y1 (h.oldS s4) (h.oldS s5)) (h.old ha2)) rfl fun r1 w2 h hF=>qdf (qh rfl hF ?_ ?_)))<;>intro hF
  ·refine X0 5 rfl ?_
   obtain rfl:=qa hF;replace hF:=hK1
   exact ri h hF rfl
  exact X0 6 rfl (rK ⟨_,hF,rfl,h⟩ rfl)
 refine qr rfl ?_
 obtain rfl:=qa hF;replace hF:=hK1
 exact X0 4 rfl (ri h hF rfl)
def qW (n:Nat) (s:(List qF)) (f_0:qF):Option Bool :=
 (qaE n s f_0).bind fun r1 =>
 some (decide (r1 ≥ 0))
theorem qcY {s:(List qF)} {f_0:qF} (ha1:GoT.R w (old w) s cs1) {p2:Option Addr} (ha2:GoT.R w (old w) (some f_0) [.pointer p2]) {r:Bool} (hF:qW n s f_0=some r):RetV Tryz.prog 320 [GoT.v (List qF) cs1,.func (.func 321) #[] #[.pointer p2]] w r:=by
 obtain ⟨p1,k1,rfl,s1⟩:=ha1
 obtain ⟨b1,o_1,cs2,rfl,-,hr1,hc1⟩:=PtR.get ha2 rfl
 obtain ⟨p3,k2,p4,k3,rfl,s2,s3⟩:=qag hr1
 exact zV 9 Tryz.func320 rfl fun h=>X0 8 rfl (zcI h hF (qdp ⟨_,_,rfl,(h.oldS s1)⟩ (h.old ha2)) rfl fun r1 w1 h hF=>X0 3 rfl (rb h hF rfl))
def qbC (c:qp):Nat→Int→Option (Flow Bool Int)
 | 0,_=>none
 | n+1,i1 =>
  bif decide (i1<(c.Aj.length:Int)) then
   (idx c.Aj i1).bind fun y1 =>
   (qfX n c y1).bind fun r1 =>
   bif (!r1) then some (.ret false) else
   (subS c.Aj 0 i1).bind fun x1 =>
   (qW n x1 y1).bind fun r2 =>
   bif r2 then some (.ret false) else
   qbC c n (W64 (i1+1))
  else
   some (.nxt i1)
def qeV (n:Nat) (c:qp):Option Bool :=
 (qbC c n 0).bind fun o=>match o with
 | .ret r=>some r
 | .nxt _ =>
  some (decide ((c.Aj.length:Int)≤8))
theorem qjX {c:qp} (ha1:GoT.R w (old w) c cs1) {r:Bool} (hF:qeV n c=some r):RetV Tryz.prog 301 [GoT.v qp cs1] w r:=by
 obtain ⟨p1,k1,p2,k2,p3,k3,rfl,s1,s2,s3⟩:=qU ha1
 refine zV 30 Tryz.func301 rfl fun h=>zSR (qu h rfl rfl fun w1 bb1 h=>X1 10 0 h rfl ?_)
 obtain ⟨o1,hF,hK1⟩:=qf hF
 refine ql (rL (fun m e w'=>∃ (i1:Int),qbC c m i1=some o1∧e=[(1,.pointer (some ⟨bb1,0,none⟩)),(6,.slice p2 c.Aj.length k2),(7,.int .i64 (c.Aj.length:Int)),(8,.int .i64 i1)]∧SH w w' [Ch.box bb1 (qcT c p1 p2 p3 k1 k2 k3) 263]) n ⟨_,hF,rfl,h⟩ rfl ?_)
 rintro m1 e1 w2 ⟨i1,hF,rfl,h⟩
 rcases m1 with _|m1
 ·cases hF
 refine X0 5 rfl (qh rfl hF ?_ ?_)<;>intro hF
 ·refine X0 6 rfl ?_
  obtain ⟨y1,hy1,hF,he1,b1,_,q1,cs2,hp1,hq1,hr1,hc2⟩:=s2.ix hF
  obtain ⟨p4,k4,p5,k5,rfl,s4,s5⟩:=qag hr1
  refine zxe hp1 hq1 he1 rfl (zc 0 (hc2.below h.below) rfl (qx qb h rfl rfl rfl fun w3 bb2 h=>zp1 rfl (zs 0 h rfl fun w4 h=>X2 5 1 0 h rfl (zcB h hF (qkY (h.old ha1) (qfL y1 (h.oldS s4) (h.oldS s5))) rfl fun r1 w5 h hF=>zp2 rfl (qg (t:=17) hF rfl ?_ ?_)))))<;>intro hF
  ·refine X0 8 rfl (qb2 rfl rfl (X0 4 rfl ?_))
   obtain rfl:=qa hF;replace hF:=hK1
   exact rb h hF rfl
  refine X1 7 1 h rfl ?_
  obtain ⟨x1,hx1,hF⟩:=qf hF
  obtain ⟨p6,k6,hp2,hk1,hl1,g1⟩:=qsf (h.oldS s2) hx1
  refine r_v (qp2 qb rfl rfl rfl (qsT g1 rfl) hp2 hk1 hl1 rfl rfl rfl rfl) rfl ?_
  have s6:=qsA s2 hx1 hp2 hk1
  refine X0 3 rfl (zcB h hF (qcY ⟨_,_,rfl,(h.oldS s6)⟩ (qiu (x:=y1) 0 h rfl (qfL y1 (h.oldS s4) (h.oldS s5)))) rfl fun r2 w6 h hF=>X0 2 rfl (qh rfl hF ?_ ?_))<;>intro hF
  ·refine X0 4 rfl ?_
   obtain rfl:=qa hF;replace hF:=hK1
   exact rb h hF rfl
  refine X0 6 rfl ?_
  replace h:=h.pick [1] rfl
  exact rK ⟨_,hF,rfl,h⟩ rfl
 refine qr rfl ?_
 obtain rfl:=qa hF;replace hF:=hK1
 exact X1 8 0 h rfl (rb h hF rfl)
def qhy (_:Nat) (a:qF) (v0:Int):Option Bool :=
 some (a.Ay==v0)
theorem qkK {a:qF} {v0:Int} (ha1:GoT.R w (old w) a cs1) {p3:Option Addr} (ha2:GoT.R w (old w) (some v0) [.pointer p3]) {r:Bool} (hF:qhy n a v0=some r):RetV Tryz.prog 338 [GoT.v qF cs1,.pointer p3] w r:=by
 obtain ⟨p1,k1,p2,k2,rfl,s1,s2⟩:=qag ha1
 obtain ⟨b1,o_1,cs2,rfl,-,hr1,hc1⟩:=PtR.get ha2 rfl
 obtain rfl:=hr1
 exact zV 8 Tryz.func338 rfl fun h=>zSR (qu h rfl rfl fun w1 bb1 h=>X1 6 0 h rfl (zc 0 (hc1.below h.below) rfl (X0 3 rfl (rb h hF rfl))))
def qI (s:(List qF)) (f_0:Int):Nat→Int→Option (Flow Int Int)
 | 0,_=>none
 | n+1,i1 =>
  bif decide (i1<(s.length:Int)) then
   (idx s i1).bind fun y1 =>
   (qhy n y1 f_0).bind fun r1 =>
   bif r1 then some (.ret i1) else
   qI s f_0 n (W64 (i1+1))
  else
   some (.nxt i1)
def qa2 (n:Nat) (s:(List qF)) (f_0:Int):Option Int :=
 (qI s f_0 n 0).bind fun o=>match o with
 | .ret r=>some r
 | .nxt _ =>
  some (-1)
theorem qed {s:(List qF)} {f_0:Int} (ha1:GoT.R w (old w) s cs1) {p2:Option Addr} (ha2:GoT.R w (old w) (some f_0) [.pointer p2]) {r:Int} (hF:qa2 n s f_0=some r):RetV Tryz.prog 192 [GoT.v (List qF) cs1,.func (.func 338) #[] #[.pointer p2]] w r:=by
 obtain ⟨p1,k1,rfl,s1⟩:=ha1
 obtain ⟨b1,o_1,cs2,rfl,-,hr1,hc1⟩:=PtR.get ha2 rfl
 obtain rfl:=hr1
 refine zV 19 Tryz.func192 rfl fun h=>X0 11 rfl ?_
 obtain ⟨o1,hF,hK1⟩:=qf hF
 refine ql (rL (fun m e w'=>∃ (i1:Int),qI s f_0 m i1=some o1∧e=[(0,.slice p1 s.length k1),(1,.func (.func 338) #[] #[.pointer (some ⟨b1,o_1,none⟩)]),(7,.int .i64 (s.length:Int)),(8,.int .i64 i1)]∧SH w w' []) n ⟨_,hF,rfl,h⟩ rfl ?_)
 rintro m1 e1 w1 ⟨i1,hF,rfl,h⟩
 rcases m1 with _|m1
 ·cases hF
 refine X0 5 rfl (qh rfl hF ?_ ?_)<;>intro hF
 ·refine X0 13 rfl ?_
  obtain ⟨y1,hy1,hF,he1,b2,_,q1,cs3,hp1,hq1,hr2,hc3⟩:=s1.ix hF
  obtain ⟨p3,k2,p4,k3,rfl,s2,s3⟩:=qag hr2
  refine zxe hp1 hq1 he1 rfl (zc 0 (hc3.below h.below) rfl (zcB h hF (qkK (qfL y1 (h.oldS s2) (h.oldS s3)) (h.old ha2)) rfl fun r1 w2 h hF=>qdf (qh rfl hF ?_ ?_)))<;>intro hF
  ·refine X0 5 rfl ?_
   obtain rfl:=qa hF;replace hF:=hK1
   exact ri h hF rfl
  exact X0 6 rfl (rK ⟨_,hF,rfl,h⟩ rfl)
 refine qr rfl ?_
 obtain rfl:=qa hF;replace hF:=hK1
 exact X0 4 rfl (ri h hF rfl)
def qaM (n:Nat) (s:(List qF)) (f_0:Int):Option Bool :=
 (qa2 n s f_0).bind fun r1 =>
 some (decide (r1 ≥ 0))
theorem qdE {s:(List qF)} {f_0:Int} (ha1:GoT.R w (old w) s cs1) {p2:Option Addr} (ha2:GoT.R w (old w) (some f_0) [.pointer p2]) {r:Bool} (hF:qaM n s f_0=some r):RetV Tryz.prog 320 [GoT.v (List qF) cs1,.func (.func 338) #[] #[.pointer p2]] w r:=by
 obtain ⟨p1,k1,rfl,s1⟩:=ha1
 obtain ⟨b1,o_1,cs2,rfl,-,hr1,hc1⟩:=PtR.get ha2 rfl
 obtain rfl:=hr1
 exact zV 9 Tryz.func320 rfl fun h=>X0 8 rfl (zcI h hF (qed ⟨_,_,rfl,(h.oldS s1)⟩ (h.old ha2)) rfl fun r1 w1 h hF=>X0 3 rfl (rb h hF rfl))
def qcc (n:Nat) (c:qp) (kind:Int):Option Bool :=
 (qaM n c.Aj kind).bind fun r1 =>
 some r1
theorem qc6 {c:qp} {kind:Int} (ha1:GoT.R w (old w) c cs1) {r:Bool} (hF:qcc n c kind=some r):RetV Tryz.prog 322 [GoT.v qp cs1,.int .i64 kind] w r:=by
 obtain ⟨p1,k1,p2,k2,p3,k3,rfl,s1,s2,s3⟩:=qU ha1
 exact zV 9 Tryz.func322 rfl fun h=>zSR (qu h rfl rfl fun w1 bb1 h=>qu h rfl rfl fun w2 bb2 h=>X1 7 1 h rfl (zcB h hF (qdE ⟨_,_,rfl,(h.oldS s2)⟩ (qiu (x:=kind) 0 h rfl rfl)) rfl fun r1 w3 h hF=>X0 2 rfl (rb h hF rfl)))
def qaH (a_0:qp):Nat→Int→Int→Option (Int × Int)
 | 0,_,_=>none
 | n+1,i1,i2 =>
  bif decide (i2<(a_0.Am.length:Int)) then
   (idx a_0.Am i2).bind fun y1 =>
   bif y1.Bh then qaH a_0 n (W64 (i1+1)) (W64 (i2+1)) else
   qaH a_0 n i1 (W64 (i2+1))
  else
   some (i1,i2)
def qew (n:Nat) (a_0:qp):Option Bool :=
 (qaH a_0 n 0 0).bind fun o=>match o with
 | (i1,_) =>
  bif (a_0.Ay==1) then
   bif (i1==0) then
    (qdc n a_0).bind fun r1 =>
    (shlS 1 r1).bind fun y2 =>
    bif ((a_0.Bc.length:Int)==y2) then
     (qbK n a_0.Bc 0 1).bind fun r2 =>
     some r2
    else
     some false
   else
    some false
  else
   bif (a_0.Ay==2) then
    bif (i1==1) then
     bif ((a_0.Bc.length:Int)==0) then
      (qcc n a_0 1).bind fun r3 =>
      bif (!r3) then
       (qcc n a_0 2).bind fun r4 =>
       (qcc n a_0 3).bind fun r5 =>
       some (!(r4==r5))
      else
       some false
     else
      some false
    else
     some false
   else
    bif (a_0.Ay==3) then
     bif (i1==1) then
      bif ((a_0.Bc.length:Int)==0) then
       (qcc n a_0 1).bind fun r6 =>
       bif r6 then
        (qcc n a_0 2).bind fun r7 =>
        bif r7 then
         (qcc n a_0 3).bind fun r8 =>
         some (!r8)
        else
         some false
       else
        some false
      else
       some false
     else
      some false
    else
     some false
theorem qjF {a_0:qp} (ha1:GoT.R w (old w) a_0 cs1) {r:Bool} (hF:qew n a_0=some r):RetV Tryz.prog 302 [GoT.v qp cs1] w r:=by
 obtain ⟨p1,k1,p2,k2,p3,k3,rfl,s1,s2,s3⟩:=qU ha1
 refine zV 83 Tryz.func302 rfl fun h=>zSR (qu h rfl rfl fun w1 bb1 h=>X1 14 0 h rfl ?_)
 obtain ⟨o1,hF,hK1⟩:=qf hF
 refine ql (rL (fun m e w'=>∃ (i1:Int) (i2:Int),qaH a_0 m i1 i2=some o1∧e=[(1,.pointer (some ⟨bb1,0,none⟩)),(3,.int .i64 i1),(7,.slice p1 a_0.Am.length k1),(8,.int .i64 (a_0.Am.length:Int)),(9,.int .i64 i2)]∧SH w w' [Ch.box bb1 (qcT a_0 p1 p2 p3 k1 k2 k3) 263]) n ⟨_,_,hF,rfl,h⟩ rfl ?_)
 rintro m1 e1 w2 ⟨i1,i2,hF,rfl,h⟩
 rcases m1 with _|m1
 ·cases hF
 refine X0 5 rfl (qh rfl hF ?_ ?_)<;>intro hF
 ·refine zKSBSR ?_
  obtain ⟨y1,hy1,hF,he1,b1,_,q1,cs2,hp1,hq1,hr1,hc2⟩:=s1.ix hF
  obtain rfl:=qau hr1
  refine zxe hp1 hq1 he1 rfl (zc 0 (hc2.below h.below) rfl (qx qb h rfl rfl rfl fun w3 bb2 h=>zs 0 h rfl fun w4 h=>X1 6 0 h rfl (qh rfl hF ?_ ?_)))<;>intro hF
  ·refine X0 10 rfl ?_
   replace h:=h.pick [1] rfl
   exact rK ⟨_,_,hF,rfl,h⟩ rfl
  refine X0 6 rfl ?_
  replace h:=h.pick [1] rfl
  exact rK ⟨_,_,hF,rfl,h⟩ rfl
 refine qr rfl ?_
 obtain rfl:=qa hF;replace hF:=hK1
 refine X1 12 0 h rfl (qh rfl hF ?_ ?_)<;>intro hF
 ·refine qej (rD (zd3 rfl (qba (t:=24) hF rfl ?_ ?_)))<;>intro hF
  ·refine Y1 4 0 h rfl ?_
   refine Y1 4 0 h rfl ?_
   refine Y0 1 rfl ?_
   obtain ⟨r1,hr2,hF⟩:=qf hF
   refine qbF r1 (vsI _) (cB 200 rfl) (fun _ hb=>qfD ((h.ext hb).old ha1) hr2) rfl rfl rfl rfl (Y0 1 rfl ?_)
   obtain ⟨y2,hx1,hF⟩:=qf hF
   obtain ⟨g1,hx1⟩:=qov hx1
   refine d_v (fun _ hb=>qt3 g1 rfl rfl) rfl ?_
   rw [hx1]
   refine Y0 4 rfl (qba (t:=33) hF rfl ?_ ?_)<;>intro hF
   ·refine Y1 4 0 h rfl ?_
    refine Y0 1 rfl ?_
    obtain ⟨r2,hr3,hF⟩:=qf hF
    exact qbF r2 (vsB _) (cB 98 rfl) (fun _ hb=>qcv ⟨_,_,rfl,((h.ext hb).oldS s3)⟩ hr3) rfl rfl rfl rfl (zd2 rfl (dN h fun w5 h=>rb h hF rfl))
   exact Y0 5 rfl (dN h fun w6 h=>rb h hF rfl)
  exact Y0 14 rfl (dN h fun w7 h=>rb h hF rfl)
 refine X0 5 rfl (qh rfl hF ?_ ?_)<;>intro hF
 ·refine qej (rD (zd3 rfl (qba (t:=42) hF rfl ?_ ?_)))<;>intro hF
  ·refine Y1 4 0 h rfl ?_
   refine Y0 6 rfl (qba (t:=48) hF rfl ?_ ?_)<;>intro hF
   ·refine Y1 2 0 h rfl ?_
    refine Y0 1 rfl ?_
    obtain ⟨r3,hr4,hF⟩:=qf hF
    refine qbF r3 (vsB _) (cB 322 rfl) (fun _ hb=>qc6 ((h.ext hb).old ha1) hr4) rfl rfl rfl rfl (Y0 4 rfl (qba (t:=53) hF rfl ?_ ?_))<;>intro hF
    ·refine Y1 2 0 h rfl ?_
     refine Y0 1 rfl ?_
     obtain ⟨r4,hr5,hF⟩:=qf hF
     refine qbF r4 (vsB _) (cB 322 rfl) (fun _ hb=>qc6 ((h.ext hb).old ha1) hr5) rfl rfl rfl rfl (Y1 2 0 h rfl ?_)
     refine Y0 1 rfl ?_
     obtain ⟨r5,hr6,hF⟩:=qf hF
     exact qbF r5 (vsB _) (cB 322 rfl) (fun _ hb=>qc6 ((h.ext hb).old ha1) hr6) rfl rfl rfl rfl (Y0 4 rfl (dN h fun w8 h=>rb h hF rfl))
    exact Y0 7 rfl (dN h fun w9 h=>rb h hF rfl)
   exact Y0 12 rfl (dN h fun w10 h=>rb h hF rfl)
  exact Y0 18 rfl (dN h fun w11 h=>rb h hF rfl)
 refine X0 5 rfl (qh rfl hF ?_ ?_)<;>intro hF
 ·refine X0 5 rfl (qg (t:=64) hF rfl ?_ ?_)<;>intro hF
  ·refine X1 10 0 h rfl (qg (t:=70) hF rfl ?_ ?_)<;>intro hF
   ·refine X1 3 0 h rfl (zcB h hF (qc6 (h.old ha1)) rfl fun r6 w12 h hF=>zp2 rfl (qg (t:=74) hF rfl ?_ ?_))<;>intro hF
    ·refine X1 3 0 h rfl (zcB h hF (qc6 (h.old ha1)) rfl fun r7 w13 h hF=>zp2 rfl (qg (t:=78) hF rfl ?_ ?_))<;>intro hF
     ·exact X1 3 0 h rfl (zcB h hF (qc6 (h.old ha1)) rfl fun r8 w14 h hF=>X0 5 rfl (rb h hF rfl))
     exact X0 6 rfl (rb h hF rfl)
    exact X0 10 rfl (rb h hF rfl)
   exact X0 14 rfl (rb h hF rfl)
  exact X0 20 rfl (rb h hF rfl)
 exact X0 6 rfl (rb h hF rfl)
def qiO (n:Nat) (c:qp):Option Bool :=
 (qhs n c.Ar).bind fun r1 =>
 bif r1 then
  (qhD n c.Am).bind fun r2 =>
  bif r2 then
   (qeV n c).bind fun r3 =>
   bif r3 then
    (qam n c.Bq 0 100000).bind fun r4 =>
    bif r4 then
     (qam n c.Bj 0 100000).bind fun r5 =>
     bif r5 then
      (qew n c).bind fun r6 =>
      some r6
     else
      some false
    else
     some false
   else
    some false
  else
   some false
 else
  some false
theorem qnB {c:qp} (ha1:GoT.R w (old w) c cs1) {r:Bool} (hF:qiO n c=some r):RetV Tryz.prog 261 [GoT.v qp cs1] w r:=by
 obtain ⟨p1,k1,p2,k2,p3,k3,rfl,s1,s2,s3⟩:=qU ha1
 refine zV 29 Tryz.func261 rfl fun h=>zSR (qu h rfl rfl fun w1 bb1 h=>X1 6 0 h rfl (zcB h hF qkg rfl fun r1 w2 h hF=>zp1 rfl (qg (t:=6) hF rfl ?_ ?_)))<;>intro hF
 ·refine X1 5 0 h rfl (zcB h hF (qmA ⟨_,_,rfl,(h.oldS s1)⟩) rfl fun r2 w3 h hF=>zp2 rfl (qg (t:=11) hF rfl ?_ ?_))<;>intro hF
  ·refine X1 3 0 h rfl (zcB h hF (qjX (h.old ha1)) rfl fun r3 w4 h hF=>zp2 rfl (qg (t:=15) hF rfl ?_ ?_))<;>intro hF
   ·refine X1 5 0 h rfl (zcB h hF qac rfl fun r4 w5 h hF=>zp2 rfl (qg (t:=20) hF rfl ?_ ?_))<;>intro hF
    ·refine X1 5 0 h rfl (zcB h hF qac rfl fun r5 w6 h hF=>zp2 rfl (qg (t:=25) hF rfl ?_ ?_))<;>intro hF
     ·exact X1 3 0 h rfl (zcB h hF (qjF (h.old ha1)) rfl fun r6 w7 h hF=>X0 3 rfl (rb h hF rfl))
     exact X0 5 rfl (rb h hF rfl)
    exact X0 10 rfl (rb h hF rfl)
   exact X0 15 rfl (rb h hF rfl)
  exact X0 19 rfl (rb h hF rfl)
 exact X0 24 rfl (rb h hF rfl)
def qbR (l:qn):Nat→(List ByteArray)→Int→Option (Flow Bool ((List ByteArray) × Int))
 | 0,_,_=>none
 | n+1,x1,i1 =>
  bif decide (i1<(l.Ak.length:Int)) then
   (idx l.Ak i1).bind fun y1 =>
   (qiO n y1).bind fun r1 =>
   bif (!r1) then some (.ret false) else
   (appS x1 ([y1.Ar]:List ByteArray)).bind fun x2 =>
   qbR l n x2 (W64 (i1+1))
  else
   some (.nxt (x1,i1))
def qgd (n:Nat) (l:qn):Option Bool :=
 (qbR l n ([]:List ByteArray) 0).bind fun o=>match o with
 | .ret r=>some r
 | .nxt (x1,_) =>
  bif decide ((l.Ak.length:Int)≤8) then
   (qcW n x1).bind fun r2 =>
   some r2
  else
   some false
theorem qlt {l:qn} (ha1:GoT.R w (old w) l cs1) {r:Bool} (hF:qgd n l=some r):RetV Tryz.prog 214 [GoT.v qn cs1] w r:=by
 obtain ⟨p1,k1,rfl,s1⟩:=qbf ha1
 refine zV 30 Tryz.func214 rfl fun h=>zSR (qu h rfl rfl fun w1 bb1 h=>X1 14 0 h rfl ?_)
 replace h:=h.nil (α:=ByteArray)
 obtain ⟨o1,hF,hK1⟩:=qf hF
 refine ql (rL (fun m e w'=>∃ (S1:Nat→Prop) (p2:Option Addr) (ln1:Nat) (k2:Nat) (x1:(List ByteArray)) (i1:Int),qbR l m x1 i1=some o1∧e=[(1,.pointer (some ⟨bb1,0,none⟩)),(3,.slice p2 ln1 k2),(7,.slice p1 l.Ak.length k1),(8,.int .i64 (l.Ak.length:Int)),(9,.int .i64 i1)]∧SH w w' [Ch.own S1 (x1:List ByteArray) [.slice p2 ln1 k2],Ch.box bb1 [.slice p1 l.Ak.length k1] 41]) n ⟨_,_,_,_,_,_,hF,rfl,h⟩ rfl ?_)
 rintro m1 e1 w2 ⟨S1,p2,ln1,k2,x1,i1,hF,rfl,h⟩
 obtain rfl:=(h.sl 0 rfl).2
 rcases m1 with _|m1
 ·cases hF
 refine X0 5 rfl (qh rfl hF ?_ ?_)<;>intro hF
 ·refine zKSBSR ?_
  obtain ⟨y1,hy1,hF,he1,b1,_,q1,cs2,hp1,hq1,hr1,hc2⟩:=s1.ix hF
  obtain ⟨p3,k3,p4,k4,p5,k5,rfl,s2,s3,s4⟩:=qU hr1
  refine zxe hp1 hq1 he1 rfl (zc 0 (hc2.below h.below) rfl (qx qb h rfl rfl rfl fun w3 bb2 h=>zs 0 h rfl fun w4 h=>X1 5 0 h rfl (zcB h hF (qnB (qh1 y1 (h.oldS s2) (h.oldS s3) (h.oldS s4))) rfl fun r1 w5 h hF=>X0 2 rfl (qh rfl hF ?_ ?_))))<;>intro hF
  ·refine X0 4 rfl ?_
   obtain rfl:=qa hF;replace hF:=hK1
   exact rb h hF rfl
  refine X1 5 0 h rfl (qab qb [.tmp 18] _ ([y1.Ar]:List ByteArray) h rfl rfl rfl rfl rfl rfl rfl rfl rfl ⟨rfl,trivial⟩ rfl fun w6 p6 S2 h=>?_)
  obtain ⟨x2,hx1,hF⟩:=qf hF
  obtain ⟨g1,hx1⟩:=qaY hx1
  refine qei qb 2 h rfl (h.sl 0 rfl).1 (h.sl 0 rfl).2 rfl rfl rfl rfl rfl rfl rfl rfl rfl g1 hx1 rfl fun w7 p7 k6 S3 h=>X0 7 rfl ?_
  replace h:=h.pick [2,3] rfl
  exact rK ⟨_,_,_,_,_,_,hF,rfl,h⟩ rfl
 refine qr rfl ?_
 obtain rfl:=qa hF;replace hF:=hK1
 refine X1 7 1 h rfl (qg (t:=26) hF rfl ?_ ?_)<;>intro hF
 ·exact X0 3 rfl (zcB h hF (qd3 (h.own 0 rfl)) rfl fun r2 w8 h hF=>X0 3 rfl (rb h hF rfl))
 exact X0 5 rfl (rb h hF rfl)
def qaP (d:qc):Nat→(List ByteArray)→Int→Option ((List ByteArray) × Int)
 | 0,_,_=>none
 | n+1,x3,i2 =>
  bif decide (i2<(d.Af.length:Int)) then
   (idx d.Af i2).bind fun y2 =>
   (appS x3 ([y2.Ar]:List ByteArray)).bind fun x4 =>
   qaP d n x4 (W64 (i2+1))
  else
   some (x3,i2)
def qaK (d:qc):Nat→(List ByteArray)→Int→Option ((List ByteArray) × Int)
 | 0,_,_=>none
 | n+1,x1,i1 =>
  bif decide (i1<(d.Aa.length:Int)) then
   (idx d.Aa i1).bind fun y1 =>
   (appS x1 ([y1.Ar]:List ByteArray)).bind fun x2 =>
   qaK d n x2 (W64 (i1+1))
  else
   some (x1,i1)
def qdN (n:Nat) (d:qc):Option Bool :=
 (qaK d n ([]:List ByteArray) 0).bind fun o=>match o with
 | (x1,_) =>
  (qaP d n ([]:List ByteArray) 0).bind fun o=>match o with
  | (x3,_) =>
   bif decide ((x1.length:Int)≤14) then
    bif decide ((d.Ah.length:Int)≤30) then
     bif decide ((x3.length:Int)≤8) then
      (qcW n x1).bind fun r1 =>
      bif r1 then
       (qcW n d.Ah).bind fun r2 =>
       bif r2 then
        (qcW n x3).bind fun r3 =>
        some r3
       else
        some false
      else
       some false
     else
      some false
    else
     some false
   else
    some false
theorem qi8 {d:qc} (ha1:GoT.R w (old w) d cs1) {r:Bool} (hF:qdN n d=some r):RetV Tryz.prog 215 [GoT.v qc cs1] w r:=by
 obtain ⟨p1,k1,p2,k2,p3,k3,rfl,s1,s2,s3⟩:=qae ha1
 refine zV 62 Tryz.func215 rfl fun h=>zSR (qu h rfl rfl fun w1 bb1 h=>X1 15 0 h rfl ?_)
 replace h:=h.nil (α:=ByteArray)
 obtain ⟨o1,hF,hK1⟩:=qf hF
 refine ql (rL (fun m e w'=>∃ (S1:Nat→Prop) (p4:Option Addr) (ln1:Nat) (k4:Nat) (x1:(List ByteArray)) (i1:Int),qaK d m x1 i1=some o1∧e=[(1,.pointer (some ⟨bb1,0,none⟩)),(3,.slice p4 ln1 k4),(4,.slice none 0 0),(10,.slice p1 d.Aa.length k1),(11,.int .i64 (d.Aa.length:Int)),(12,.int .i64 i1)]∧SH w w' [Ch.own S1 (x1:List ByteArray) [.slice p4 ln1 k4],Ch.box bb1 (qaQ d p1 p2 p3 k1 k2 k3) 45]) n ⟨_,_,_,_,_,_,hF,rfl,h⟩ rfl ?_)
 rintro m1 e1 w2 ⟨S1,p4,ln1,k4,x1,i1,hF,rfl,h⟩
 obtain rfl:=(h.sl 0 rfl).2
 rcases m1 with _|m1
 ·cases hF
 refine X0 5 rfl (qh rfl hF ?_ ?_)<;>intro hF
 ·refine zKSBSR ?_
  obtain ⟨y1,hy1,hF,he1,b1,_,q1,cs2,hp1,hq1,hr1,hc2⟩:=s1.ix hF
  obtain ⟨p5,k5,rfl,s4⟩:=qM hr1
  refine zxe hp1 hq1 he1 rfl (zc 0 (hc2.below h.below) rfl (qx qb h rfl rfl rfl fun w3 bb2 h=>zs 0 h rfl fun w4 h=>X1 5 0 h rfl (qab qb [.tmp 18] _ ([y1.Ar]:List ByteArray) h rfl rfl rfl rfl rfl rfl rfl rfl rfl ⟨rfl,trivial⟩ rfl fun w5 p6 S2 h=>?_)))
  obtain ⟨x2,hx1,hF⟩:=qf hF
  obtain ⟨g1,hx1⟩:=qaY hx1
  refine qei qb 2 h rfl (h.sl 0 rfl).1 (h.sl 0 rfl).2 rfl rfl rfl rfl rfl rfl rfl rfl rfl g1 hx1 rfl fun w6 p7 k6 S3 h=>X0 7 rfl ?_
  replace h:=h.pick [2,3] rfl
  exact rK ⟨_,_,_,_,_,_,hF,rfl,h⟩ rfl
 refine qr rfl ?_
 obtain rfl:=qa hF;replace hF:=hK1
 refine X1 8 1 h rfl ?_
 replace h:=h.nil (α:=ByteArray)
 obtain ⟨o2,hF,hK2⟩:=qf hF
 refine ql (rL (fun m e w'=>∃ (S4:Nat→Prop) (p8:Option Addr) (ln2:Nat) (k7:Nat) (x3:(List ByteArray)) (i2:Int),qaP d m x3 i2=some o2∧e=[(1,.pointer (some ⟨bb1,0,none⟩)),(3,.slice p4 x1.length k4),(4,.slice p8 ln2 k7),(23,.slice p3 d.Af.length k3),(24,.int .i64 (d.Af.length:Int)),(25,.int .i64 i2)]∧SH w w' [Ch.own S4 (x3:List ByteArray) [.slice p8 ln2 k7],Ch.own S1 (x1:List ByteArray) [.slice p4 x1.length k4],Ch.box bb1 (qaQ d p1 p2 p3 k1 k2 k3) 45]) n ⟨_,_,_,_,_,_,hF,rfl,h⟩ rfl ?_)
 rintro m2 e2 w7 ⟨S4,p8,ln2,k7,x3,i2,hF,rfl,h⟩
 obtain rfl:=(h.sl 0 rfl).2
 rcases m2 with _|m2
 ·cases hF
 refine X0 5 rfl (qh rfl hF ?_ ?_)<;>intro hF
 ·refine zKSBSR ?_
  obtain ⟨y2,hy2,hF,he2,b2,_,q2,cs3,hp2,hq2,hr2,hc4⟩:=s3.ix hF
  obtain rfl:=qak hr2
  refine zxe hp2 hq2 he2 rfl (zc 0 (hc4.below h.below) rfl (qx qb h rfl rfl rfl fun w8 bb3 h=>zs 0 h rfl fun w9 h=>X1 5 0 h rfl (qab qb [.tmp 31] _ ([y2.Ar]:List ByteArray) h rfl rfl rfl rfl rfl rfl rfl rfl rfl ⟨rfl,trivial⟩ rfl fun w10 p9 S5 h=>?_)))
  obtain ⟨x4,hx2,hF⟩:=qf hF
  obtain ⟨g2,hx2⟩:=qaY hx2
  refine qei qb 2 h rfl (h.sl 0 rfl).1 (h.sl 0 rfl).2 rfl rfl rfl rfl rfl rfl rfl rfl rfl g2 hx2 rfl fun w11 p10 k8 S6 h=>X0 7 rfl ?_
  replace h:=h.pick [2,3,4] rfl
  exact rK ⟨_,_,_,_,_,_,hF,rfl,h⟩ rfl
 refine qr rfl ?_
 obtain rfl:=qa hF;replace hF:=hK2
 refine X0 6 rfl (qg (t:=38) hF rfl ?_ ?_)<;>intro hF
 ·refine X1 10 2 h rfl (qg (t:=44) hF rfl ?_ ?_)<;>intro hF
  ·refine X0 8 rfl (qg (t:=49) hF rfl ?_ ?_)<;>intro hF
   ·refine X0 3 rfl (zcB h hF (qd3 (h.own 1 rfl)) rfl fun r1 w12 h hF=>zp2 rfl (qg (t:=53) hF rfl ?_ ?_))<;>intro hF
    ·refine X1 5 2 h rfl (zcB h hF (qd3 ⟨_,_,rfl,(h.oldS s2)⟩) rfl fun r2 w13 h hF=>zp2 rfl (qg (t:=58) hF rfl ?_ ?_))<;>intro hF
     ·exact X0 3 rfl (zcB h hF (qd3 (h.own 0 rfl)) rfl fun r3 w14 h hF=>X0 3 rfl (rb h hF rfl))
     exact X0 5 rfl (rb h hF rfl)
    exact X0 10 rfl (rb h hF rfl)
   exact X0 14 rfl (rb h hF rfl)
  exact X0 19 rfl (rb h hF rfl)
 exact X0 25 rfl (rb h hF rfl)
def qeT (_:Nat) (list:(List qp)):Option Int :=
 some (list.length:Int)
theorem qiV {list:(List qp)} (ha1:GoT.R w (old w) list cs1) {r:Int} (hF:qeT n list=some r):RetV Tryz.prog 263 [GoT.v (List qp) cs1] w r:=by
 obtain ⟨p1,k1,rfl,s1⟩:=ha1
 exact zV 5 Tryz.func263 rfl fun h=>X0 10 rfl (ri h hF rfl)
def qcd (n:Nat) (net:Int) (v0:qc):Option Bool :=
 (qbo n v0 net).bind fun r1 =>
 some (!r1)
theorem qhT {net:Int} {v0:qc} {p1:Option Addr} (ha1:GoT.R w (old w) (some v0) [.pointer p1]) {r:Bool} (hF:qcd n net v0=some r):RetV Tryz.prog 264 [.int .i64 net,.pointer p1] w r:=by
 obtain ⟨b1,o_1,cs1,rfl,-,hr1,hc1⟩:=PtR.get ha1 rfl
 obtain ⟨p2,k1,p3,k2,p4,k3,rfl,s1,s2,s3⟩:=qae hr1
 exact zV 8 Tryz.func264 rfl fun h=>X0 6 rfl (zc 0 (hc1.below h.below) rfl (zp1 rfl (zcB h hF (qch (qaF v0 (h.oldS s1) (h.oldS s2) (h.oldS s3))) rfl fun r1 w1 h hF=>X0 3 rfl (rb h hF rfl))))
def qy (s:(List Int)) (f_0:qc):Nat→Int→Option (Flow Int Int)
 | 0,_=>none
 | n+1,i1 =>
  bif decide (i1<(s.length:Int)) then
   (idx s i1).bind fun y1 =>
   (qcd n y1 f_0).bind fun r1 =>
   bif r1 then some (.ret i1) else
   qy s f_0 n (W64 (i1+1))
  else
   some (.nxt i1)
def qaz (n:Nat) (s:(List Int)) (f_0:qc):Option Int :=
 (qy s f_0 n 0).bind fun o=>match o with
 | .ret r=>some r
 | .nxt _ =>
  some (-1)
theorem qdg {s:(List Int)} {f_0:qc} (ha1:GoT.R w (old w) s cs1) {p2:Option Addr} (ha2:GoT.R w (old w) (some f_0) [.pointer p2]) {r:Int} (hF:qaz n s f_0=some r):RetV Tryz.prog 176 [GoT.v (List Int) cs1,.func (.func 264) #[] #[.pointer p2]] w r:=by
 obtain ⟨p1,k1,rfl,s1⟩:=ha1
 obtain ⟨b1,o_1,cs2,rfl,-,hr1,hc1⟩:=PtR.get ha2 rfl
 obtain ⟨p3,k2,p4,k3,p5,k4,rfl,s2,s3,s4⟩:=qae hr1
 refine zV 19 Tryz.func176 rfl fun h=>X0 11 rfl ?_
 obtain ⟨o1,hF,hK1⟩:=qf hF
 refine ql (rL (fun m e w'=>∃ (i1:Int),qy s f_0 m i1=some o1∧e=[(0,.slice p1 s.length k1),(1,.func (.func 264) #[] #[.pointer (some ⟨b1,o_1,none⟩)]),(7,.int .i64 (s.length:Int)),(8,.int .i64 i1)]∧SH w w' []) n ⟨_,hF,rfl,h⟩ rfl ?_)
 rintro m1 e1 w1 ⟨i1,hF,rfl,h⟩
 rcases m1 with _|m1
 ·cases hF
 refine X0 5 rfl (qh rfl hF ?_ ?_)<;>intro hF
 ·refine X0 13 rfl ?_
  obtain ⟨y1,hy1,hF,he1,b2,_,q1,cs3,hp1,hq1,rfl,hc3⟩:=s1.ix hF
  refine zxe hp1 hq1 he1 rfl (zc 0 (hc3.below h.below) rfl (zcB h hF (qhT (h.old ha2)) rfl fun r1 w2 h hF=>qdf (qh rfl hF ?_ ?_)))<;>intro hF
  ·refine X0 5 rfl ?_
   obtain rfl:=qa hF;replace hF:=hK1
   exact ri h hF rfl
  exact X0 6 rfl (rK ⟨_,hF,rfl,h⟩ rfl)
 refine qr rfl ?_
 obtain rfl:=qa hF;replace hF:=hK1
 exact X0 4 rfl (ri h hF rfl)
def qaj (n:Nat) (s:(List Int)) (f_0:qc):Option Bool :=
 (qaz n s f_0).bind fun r1 =>
 some (decide (r1 ≥ 0))
theorem qcI {s:(List Int)} {f_0:qc} (ha1:GoT.R w (old w) s cs1) {p2:Option Addr} (ha2:GoT.R w (old w) (some f_0) [.pointer p2]) {r:Bool} (hF:qaj n s f_0=some r):RetV Tryz.prog 93 [GoT.v (List Int) cs1,.func (.func 264) #[] #[.pointer p2]] w r:=by
 obtain ⟨p1,k1,rfl,s1⟩:=ha1
 obtain ⟨b1,o_1,cs2,rfl,-,hr1,hc1⟩:=PtR.get ha2 rfl
 obtain ⟨p3,k2,p4,k3,p5,k4,rfl,s2,s3,s4⟩:=qae hr1
 exact zV 9 Tryz.func93 rfl fun h=>X0 8 rfl (zcI h hF (qdg ⟨_,_,rfl,(h.oldS s1)⟩ (h.old ha2)) rfl fun r1 w1 h hF=>X0 3 rfl (rb h hF rfl))
def qcM (n:Nat) (d:qc) (l:qn) (x:qd):Option Bool :=
 (qeT n l.Ak).bind fun r1 =>
 (qam n x.Bl 0 (W64 (r1-1))).bind fun r2 =>
 bif r2 then
  (idx l.Ak x.Bl).bind fun y1 =>
  bif ((x.Ah.length:Int)==(y1.Am.length:Int)) then
   (qaj n x.Ah d).bind fun r3 =>
   some (!r3)
  else
   some false
 else
  some false
theorem qiz {d:qc} {l:qn} {x:qd} (ha1:GoT.R w (old w) d cs1) (ha2:GoT.R w (old w) l cs2) (ha3:GoT.R w (old w) x cs3) {r:Bool} (hF:qcM n d l x=some r):RetV Tryz.prog 216 [GoT.v qc cs1,GoT.v qn cs2,GoT.v qd cs3] w r:=by
 obtain ⟨p1,k1,p2,k2,p3,k3,rfl,s1,s2,s3⟩:=qae ha1
 obtain ⟨p4,k4,rfl,s4⟩:=qbf ha2
 obtain ⟨p5,k5,rfl,s5⟩:=qM ha3
 refine zV 35 Tryz.func216 rfl fun h=>zSR (qu h rfl rfl fun w1 bb1 h=>qu h rfl rfl fun w2 bb2 h=>qu h rfl rfl fun w3 bb3 h=>X0 3 rfl (rD (Y1 2 0 h rfl ?_)))
 refine Y1 2 1 h rfl ?_
 obtain ⟨r1,hr1,hF⟩:=qf hF
 refine qbF r1 (vsI _) (cB 263 rfl) (fun _ hb=>qiV ⟨_,_,rfl,((h.ext hb).oldS s4)⟩ hr1) rfl rfl rfl rfl (zd1 rfl ?_)
 obtain ⟨r2,hr2,hF⟩:=qf hF
 refine qbF r2 (vsB _) (cB 114 rfl) (fun _ hb=>qac  hr2) rfl rfl rfl rfl (zd1 rfl (qba (t:=14) hF rfl ?_ ?_))<;>intro hF
 ·refine Y1 4 0 h rfl ?_
  refine Y1 6 1 h rfl ?_
  refine Y1 4 0 h rfl ?_
  refine Y0 1 rfl ?_
  obtain ⟨y1,hy1,hF,he1,b1,_,q1,cs4,hp1,hq1,hr3,hc1⟩:=s4.ix hF
  obtain ⟨p6,k6,p7,k7,p8,k8,rfl,s6,s7,s8⟩:=qU hr3
  refine zdxe hp1 hq1 he1 rfl (Y0 3 rfl (zdc 2 (hc1.below h.below) rfl (Y0 6 rfl (qba (t:=28) hF rfl ?_ ?_))))<;>intro hF
  ·refine Y1 4 0 h rfl ?_
   refine Y0 3 rfl ?_
   obtain ⟨r3,hr4,hF⟩:=qf hF
   exact qbF r3 (vsB _) (cB 93 rfl) (fun _ hb=>qcI ⟨_,_,rfl,((h.ext hb).oldS s5)⟩ (qiu (x:=d) 2 (h.ext hb) rfl ((h.ext hb).old ha1)) hr4) rfl rfl rfl rfl (Y0 4 rfl (dN h fun w4 h=>rb h hF rfl))
  exact Y0 7 rfl (dN h fun w5 h=>rb h hF rfl)
 exact Y0 21 rfl (dN h fun w6 h=>rb h hF rfl)
def qhx (_:Nat) (a_n:Int):Option Bool :=
 some (a_n != 1)
theorem qkJ {a_n:Int}  {r:Bool} (hF:qhx n a_n=some r):RetV Tryz.prog 218 [.int .i64 a_n] w r:=by
 exact zV 5 Tryz.func218 rfl fun h=>X0 10 rfl (rb h hF rfl)
def qT (s:(List Int)):Nat→Int→Option (Flow Int Int)
 | 0,_=>none
 | n+1,i1 =>
  bif decide (i1<(s.length:Int)) then
   (idx s i1).bind fun y1 =>
   (qhx n y1).bind fun r1 =>
   bif r1 then some (.ret i1) else
   qT s n (W64 (i1+1))
  else
   some (.nxt i1)
def qbl (n:Nat) (s:(List Int)):Option Int :=
 (qT s n 0).bind fun o=>match o with
 | .ret r=>some r
 | .nxt _ =>
  some (-1)
theorem qe4 {s:(List Int)} (ha1:GoT.R w (old w) s cs1) {r:Int} (hF:qbl n s=some r):RetV Tryz.prog 265 [GoT.v (List Int) cs1,.func (.func 218) #[] #[]] w r:=by
 obtain ⟨p1,k1,rfl,s1⟩:=ha1
 refine zV 19 Tryz.func265 rfl fun h=>X0 11 rfl ?_
 obtain ⟨o1,hF,hK1⟩:=qf hF
 refine ql (rL (fun m e w'=>∃ (i1:Int),qT s m i1=some o1∧e=[(0,.slice p1 s.length k1),(1,.func (.func 218) #[] #[]),(7,.int .i64 (s.length:Int)),(8,.int .i64 i1)]∧SH w w' []) n ⟨_,hF,rfl,h⟩ rfl ?_)
 rintro m1 e1 w1 ⟨i1,hF,rfl,h⟩
 rcases m1 with _|m1
 ·cases hF
 refine X0 5 rfl (qh rfl hF ?_ ?_)<;>intro hF
 ·refine X0 13 rfl ?_
  obtain ⟨y1,hy1,hF,he1,b1,_,q1,cs2,hp1,hq1,rfl,hc2⟩:=s1.ix hF
  refine zxe hp1 hq1 he1 rfl (zc 0 (hc2.below h.below) rfl (zcB h hF qkJ rfl fun r1 w2 h hF=>qdf (qh rfl hF ?_ ?_)))<;>intro hF
  ·refine X0 5 rfl ?_
   obtain rfl:=qa hF;replace hF:=hK1
   exact ri h hF rfl
  exact X0 6 rfl (rK ⟨_,hF,rfl,h⟩ rfl)
 refine qr rfl ?_
 obtain rfl:=qa hF;replace hF:=hK1
 exact X0 4 rfl (ri h hF rfl)
def qa9 (n:Nat) (s:(List Int)):Option Bool :=
 (qbl n s).bind fun r1 =>
 some (decide (r1 ≥ 0))
theorem qer {s:(List Int)} (ha1:GoT.R w (old w) s cs1) {r:Bool} (hF:qa9 n s=some r):RetV Tryz.prog 217 [GoT.v (List Int) cs1,.func (.func 218) #[] #[]] w r:=by
 obtain ⟨p1,k1,rfl,s1⟩:=ha1
 exact zV 9 Tryz.func217 rfl fun h=>X0 8 rfl (zcI h hF (qe4 ⟨_,_,rfl,(h.oldS s1)⟩) rfl fun r1 w1 h hF=>X0 3 rfl (rb h hF rfl))
def qbx (a_1:qc):Nat→(List Int)→Int→Option (Flow Bool ((List Int) × Int))
 | 0,_,_=>none
 | n+1,x3,i2 =>
  bif decide (i2<(a_1.Af.length:Int)) then
   (idx a_1.Af i2).bind fun y5 =>
   (
    bif (y5.Bm != 1) then
     bif (y5.Bm != 2) then some true else
     (qbo n a_1 y5.Bo).bind fun r2 =>
     some (!r2)
    else
     (qbo n a_1 y5.Bo).bind fun r3 =>
     some (!r3)).bind fun b7 =>
   bif b7 then some (.ret false) else
   bif (y5.Bm==1) then
    (idx x3 y5.Bo).bind fun y6 =>
    (idx x3 y5.Bo).bind fun _ =>
    qbx a_1 n (setS x3 y5.Bo (W64 (y6+1))) (W64 (i2+1))
   else
    qbx a_1 n x3 (W64 (i2+1))
  else
   some (.nxt (x3,i2))
def qca (a_0:qn) (a_1:qc):Nat→(List Int)→Int→Option (Flow Bool ((List Int) × Int))
 | 0,_,_=>none
 | n+1,x2,i1 =>
  bif decide (i1<(a_1.Aa.length:Int)) then
   (idx a_1.Aa i1).bind fun y1 =>
   (qcM n a_1 a_0 y1).bind fun r1 =>
   bif (!r1) then some (.ret false) else
   (idx y1.Ah (W64 ((y1.Ah.length:Int)-1))).bind fun y2 =>
   (idx x2 y2).bind fun y3 =>
   (idx x2 y2).bind fun _ =>
   qca a_0 a_1 n (setS x2 y2 (W64 (y3+1))) (W64 (i1+1))
  else
   some (.nxt (x2,i1))
def qg8 (n:Nat) (a_0:qn) (a_1:qc):Option Bool :=
 (
  (qgd n a_0).bind fun r5 =>
  bif (!r5) then some true else
  (qdN n a_1).bind fun r6 =>
  some (!r6)).bind fun b1 =>
 bif b1 then some false else
 (mkS (a_1.Ah.length:Int) (0:Int)).bind fun x1 =>
 (qca a_0 a_1 n x1 0).bind fun o=>match o with
 | .ret r=>some r
 | .nxt (x2,_) =>
  (qbx a_1 n x2 0).bind fun o=>match o with
  | .ret r=>some r
  | .nxt (x3,_) =>
   (qa9 n x3).bind fun r4 =>
   some (!r4)
theorem ql0 {a_0:qn} {a_1:qc} (ha1:GoT.R w (old w) a_0 cs1) (ha2:GoT.R w (old w) a_1 cs2) {r:Bool} (hF:qg8 n a_0 a_1=some r):RetV Tryz.prog 139 [GoT.v qn cs1,GoT.v qc cs2] w r:=by
 obtain ⟨p1,k1,rfl,s1⟩:=qbf ha1
 obtain ⟨p2,k2,p3,k3,p4,k4,rfl,s2,s3,s4⟩:=qae ha2
 refine zV 84 Tryz.func139 rfl fun h=>zSR (qu h rfl rfl fun w1 bb1 h=>qu h rfl rfl fun w2 bb2 h=>X0 4 rfl ?_)
 obtain ⟨KF2,hKF2,o4,hF,hK4⟩:=bindE hF
 refine qcu (fun e w'=>∃ (b1:Bool),KF2 b1=some r∧e=[(2,.pointer (some ⟨bb1,0,none⟩)),(3,.pointer (some ⟨bb2,0,none⟩)),(17,.bool b1)]∧SH w w' [Ch.box bb2 (qaQ a_1 p2 p3 p4 k2 k3 k4) 45,Ch.box bb1 [.slice p1 a_0.Ak.length k1] 41]) ?_ ?_
 ·refine X1 2 1 h rfl (zcB h hF (qlt (h.old ha1)) rfl fun r5 w17 h hF=>zp2 rfl (qg (t:=13) hF rfl ?_ ?_))<;>intro hF
  ·refine X0 5 rfl ?_
   obtain rfl:=qa hF
   exact rG ⟨_,hK4,rfl,h⟩ rfl
  refine X1 3 0 h rfl (zcB h hF (qi8 (h.old ha2)) rfl fun r6 w18 h hF=>X0 4 rfl ?_)
  obtain rfl:=qa hF
  exact rG ⟨_,hK4,rfl,h⟩ rfl
 rintro e4 w19 ⟨b1,hF,rfl,h⟩
 subst hKF2
 refine qh rfl hF ?_ ?_<;>intro hF
 ·exact X0 4 rfl (rb h hF rfl)
 refine X1 6 0 h rfl ?_
 obtain ⟨x1,hx1,hF⟩:=qf hF
 obtain ⟨g1,g2,hx1⟩:=qbH hx1
 refine qcR qb Int h rfl rfl rfl rfl rfl rfl rfl rfl rfl g1 g2 hx1 rfl fun w3 S1 p5 h=>X1 10 1 h rfl ?_
 obtain ⟨o1,hF,hK1⟩:=qf hF
 refine ql (rL (fun m e w'=>∃ (x2:(List Int)) (i1:Int),qca a_0 a_1 m x2 i1=some o1∧e=[(2,.pointer (some ⟨bb1,0,none⟩)),(3,.pointer (some ⟨bb2,0,none⟩)),(5,.slice p5 x1.length x1.length),(23,.slice p2 a_1.Aa.length k2),(24,.int .i64 (a_1.Aa.length:Int)),(25,.int .i64 i1)]∧SH w w' [Ch.own S1 (x2:List Int) [.slice p5 x1.length x1.length],Ch.box bb2 (qaQ a_1 p2 p3 p4 k2 k3 k4) 45,Ch.box bb1 [.slice p1 a_0.Ak.length k1] 41]) n ⟨_,_,hF,rfl,h⟩ rfl ?_)
 rintro m1 e1 w4 ⟨x2,i1,hF,rfl,h⟩
 rcases m1 with _|m1
 ·cases hF
 refine X0 5 rfl (qh rfl hF ?_ ?_)<;>intro hF
 ·refine zKSBSR ?_
  obtain ⟨y1,hy1,hF,he1,b2,_,q1,cs3,hp1,hq1,hr1,hc3⟩:=s2.ix hF
  obtain ⟨p6,k5,rfl,s5⟩:=qM hr1
  refine zxe hp1 hq1 he1 rfl (zc 0 (hc3.below h.below) rfl (qx qb h rfl rfl rfl fun w5 bb3 h=>zs 0 h rfl fun w6 h=>X3 7 2 3 0 h rfl (zcB h hF (qiz (h.old ha2) (h.old ha1) (qeR y1 (h.oldS s5))) rfl fun r1 w7 h hF=>X0 2 rfl (qh rfl hF ?_ ?_))))<;>intro hF
  ·refine X0 4 rfl ?_
   obtain rfl:=qa hF;replace hF:=hK1
   exact rb h hF rfl
  refine X2 9 0 0 h rfl ?_
  obtain ⟨y2,hy2,hF,he2,b3,_,q2,cs4,hp2,hq2,rfl,hc5⟩:=s5.ix hF
  refine zxe hp2 hq2 he2 rfl (zc 0 (hc5.below h.below) rfl ?_)
  obtain ⟨y3,hy3,hF,he3,b4,_,q3,cs5,hp3,hq3,rfl,hc6⟩:=(h.sl 1 rfl).1.ix hF
  refine zx hp3 hq3 ⟨he3.1,qJ he3.2.1 (h.sl 1 rfl).2⟩ rfl (zc 0 hc6 rfl (zp1 rfl ?_))
  obtain ⟨y4,hy4,hF,he4,b5,_,q4,cs6,hp4,hq4,rfl,hc7⟩:=(h.sl 1 rfl).1.ix hF
  refine zx hp4 hq4 ⟨he4.1,qJ he4.2.1 (h.sl 1 rfl).2⟩ rfl (qaS qb 1 0 (W64 (y3+1)) h rfl hy4 hp4 hq4 rfl hc7 rfl rfl rfl rfl rfl rfl rfl fun w8 h=>X0 6 rfl ?_)
  replace h:=h.pick [1,2,3] rfl
  exact rK ⟨_,_,hF,rfl,h⟩ rfl
 refine qr rfl ?_
 obtain rfl:=qa hF;replace hF:=hK1
 refine X1 8 1 h rfl ?_
 obtain ⟨o2,hF,hK2⟩:=qf hF
 refine ql ?_
 replace h:=h.pick [0,1] rfl
 refine rL (fun m e w'=>∃ (x3:(List Int)) (i2:Int),qbx a_1 m x3 i2=some o2∧e=[(3,.pointer (some ⟨bb2,0,none⟩)),(5,.slice p5 x1.length x1.length),(49,.slice p4 a_1.Af.length k4),(50,.int .i64 (a_1.Af.length:Int)),(51,.int .i64 i2)]∧SH w w' [Ch.own S1 (x3:List Int) [.slice p5 x1.length x1.length],Ch.box bb2 (qaQ a_1 p2 p3 p4 k2 k3 k4) 45]) n ⟨_,_,hF,rfl,h⟩ rfl ?_
 rintro m2 e2 w9 ⟨x3,i2,hF,rfl,h⟩
 rcases m2 with _|m2
 ·cases hF
 refine X0 5 rfl (qh rfl hF ?_ ?_)<;>intro hF
 ·refine zKSBSR ?_
  obtain ⟨y5,hy5,hF,he5,b6,_,q5,cs7,hp5,hq5,hr6,hc9⟩:=s4.ix hF
  obtain rfl:=qak hr6
  refine zxe hp5 hq5 he5 rfl (zc 0 (hc9.below h.below) rfl (qx qb h rfl rfl rfl fun w10 bb4 h=>zs 0 h rfl fun w11 h=>zNSS ?_))
  obtain ⟨KF1,hKF1,o3,hF,hK3⟩:=bindE hF
  refine qcu (fun e w'=>∃ (b7:Bool),KF1 b7=some o2∧e=[(3,.pointer (some ⟨bb2,0,none⟩)),(5,.slice p5 x1.length x1.length),(9,.pointer (some ⟨bb4,0,none⟩)),(49,.slice p4 a_1.Af.length k4),(50,.int .i64 (a_1.Af.length:Int)),(51,.int .i64 i2),(69,.bool b7)]∧SH w w' [Ch.box bb4 (qmP y5) 302,Ch.own S1 (x3:List Int) [.slice p5 x1.length x1.length],Ch.box bb2 (qaQ a_1 p2 p3 p4 k2 k3 k4) 45]) ?_ ?_
  ·refine X1 5 0 h rfl (qg (t:=58) hF rfl ?_ ?_)<;>intro hF
   ·refine X1 8 0 h rfl (qg (t:=63) hF rfl ?_ ?_)<;>intro hF
    ·refine X0 7 rfl ?_
     obtain rfl:=qa hF
     exact rG ⟨_,hK3,rfl,h⟩ rfl
    refine X2 7 2 0 h rfl (zcB h hF (qch (h.old ha2)) rfl fun r2 w13 h hF=>X0 4 rfl ?_)
    obtain rfl:=qa hF
    exact rG ⟨_,hK3,rfl,h⟩ rfl
   refine X2 12 2 0 h rfl (zcB h hF (qch (h.old ha2)) rfl fun r3 w14 h hF=>X0 4 rfl ?_)
   obtain rfl:=qa hF
   exact rG ⟨_,hK3,rfl,h⟩ rfl
  rintro e3 w15 ⟨b7,hF,rfl,h⟩
  subst hKF1
  refine qh rfl hF ?_ ?_<;>intro hF
  ·refine X0 4 rfl ?_
   obtain rfl:=qa hF;replace hF:=hK2
   exact rb h hF rfl
  refine X1 7 0 h rfl (qh rfl hF ?_ ?_)<;>intro hF
  ·refine X1 4 0 h rfl ?_
   obtain ⟨y6,hy6,hF,he6,b8,_,q6,cs8,hp6,hq6,rfl,hc12⟩:=(h.sl 1 rfl).1.ix hF
   refine zx hp6 hq6 ⟨he6.1,qJ he6.2.1 (h.sl 1 rfl).2⟩ rfl (zc 0 hc12 rfl (zp1 rfl ?_))
   obtain ⟨y7,hy7,hF,he7,b9,_,q7,cs9,hp7,hq7,rfl,hc13⟩:=(h.sl 1 rfl).1.ix hF
   refine zx hp7 hq7 ⟨he7.1,qJ he7.2.1 (h.sl 1 rfl).2⟩ rfl (qaS qb 1 0 (W64 (y6+1)) h rfl hy7 hp7 hq7 rfl hc13 rfl rfl rfl rfl rfl rfl rfl fun w12 h=>X0 6 rfl ?_)
   replace h:=h.pick [1,2] rfl
   exact rK ⟨_,_,hF,rfl,h⟩ rfl
  refine X0 6 rfl ?_
  replace h:=h.pick [1,2] rfl
  exact rK ⟨_,_,hF,rfl,h⟩ rfl
 refine qr rfl ?_
 obtain rfl:=qa hF;replace hF:=hK2
 exact X0 3 rfl (zcB h hF (qer (h.own 0 rfl)) rfl fun r4 w16 h hF=>X0 3 rfl (rb h hF rfl))
def qa6 (i1:Int) (y1:qd):Nat→(List Tplace)→Int→Option ((List Tplace) × Int)
 | 0,_,_=>none
 | n+1,x2,i2 =>
  bif decide (i2<(y1.Ah.length:Int)) then
   (idx y1.Ah i2).bind fun y2 =>
   (appS x2 ([(⟨i1,i2,y2,(i2==(W64 ((y1.Ah.length:Int)-1)))⟩:Tplace)]:List Tplace)).bind fun x3 =>
   qa6 i1 y1 n x3 (W64 (i2+1))
  else
   some (x2,i2)
def qa5 (d:qc):Nat→(List Tplace)→Int→Option ((List Tplace) × Int)
 | 0,_,_=>none
 | n+1,x4,i3 =>
  bif decide (i3<(d.Af.length:Int)) then
   (idx d.Af i3).bind fun y3 =>
   (appS x4 ([(⟨(-1),i3,y3.Bo,(y3.Bm==1)⟩:Tplace)]:List Tplace)).bind fun x5 =>
   qa5 d n x5 (W64 (i3+1))
  else
   some (x4,i3)
def qa8 (d:qc):Nat→(List Tplace)→Int→Option ((List Tplace) × Int)
 | 0,_,_=>none
 | n+1,x1,i1 =>
  bif decide (i1<(d.Aa.length:Int)) then
   (idx d.Aa i1).bind fun y1 =>
   (qa6 i1 y1 n x1 0).bind fun o=>match o with
   | (x2,_) =>
    qa8 d n x2 (W64 (i1+1))
  else
   some (x1,i1)
def qbw (n:Nat) (d:qc):Option (List Tplace) :=
 (qa8 d n ([]:List Tplace) 0).bind fun o=>match o with
 | (x1,_) =>
  (qa5 d n x1 0).bind fun o=>match o with
  | (x4,_) =>
   some x4
theorem qdm {d:qc} (ha1:GoT.R w (old w) d cs1) {r:(List Tplace)} (hF:qbw n d=some r):RetV Tryz.prog 140 [GoT.v qc cs1] w r:=by
 obtain ⟨p1,k1,p2,k2,p3,k3,rfl,s1,s2,s3⟩:=qae ha1
 refine zV 61 Tryz.func140 rfl fun h=>zSR (qu h rfl rfl fun w1 bb1 h=>X1 14 0 h rfl ?_)
 replace h:=h.nil (α:=Tplace)
 obtain ⟨o1,hF,hK1⟩:=qf hF
 refine ql (rL (fun m e w'=>∃ (S1:Nat→Prop) (p4:Option Addr) (ln1:Nat) (k4:Nat) (x1:(List Tplace)) (i1:Int),qa8 d m x1 i1=some o1∧e=[(1,.pointer (some ⟨bb1,0,none⟩)),(3,.slice p4 ln1 k4),(11,.slice p1 d.Aa.length k1),(12,.int .i64 (d.Aa.length:Int)),(13,.int .i64 i1)]∧SH w w' [Ch.own S1 (x1:List Tplace) [.slice p4 ln1 k4],Ch.box bb1 (qaQ d p1 p2 p3 k1 k2 k3) 45]) n ⟨_,_,_,_,_,_,hF,rfl,h⟩ rfl ?_)
 rintro m1 e1 w2 ⟨S1,p4,ln1,k4,x1,i1,hF,rfl,h⟩
 obtain rfl:=(h.sl 0 rfl).2
 rcases m1 with _|m1
 ·cases hF
 refine X0 5 rfl (qh rfl hF ?_ ?_)<;>intro hF
 ·refine X0 6 rfl ?_
  obtain ⟨y1,hy1,hF,he1,b1,_,q1,cs2,hp1,hq1,hr1,hc2⟩:=s1.ix hF
  obtain ⟨p5,k5,rfl,s4⟩:=qM hr1
  refine zxe hp1 hq1 he1 rfl (zc 0 (hc2.below h.below) rfl (qx qb h rfl rfl rfl fun w3 bb2 h=>zp1 rfl (zs 0 h rfl fun w4 h=>X1 8 0 h rfl ?_)))
  obtain ⟨o2,hF,hK2⟩:=qf hF
  refine ql (rL (fun m e w'=>∃ (S2:Nat→Prop) (p6:Option Addr) (ln2:Nat) (k6:Nat) (x2:(List Tplace)) (i2:Int),qa6 i1 y1 m x2 i2=some o2∧e=[(1,.pointer (some ⟨bb1,0,none⟩)),(3,.slice p6 ln2 k6),(4,.int .i64 i1),(5,.pointer (some ⟨bb2,0,none⟩)),(11,.slice p1 d.Aa.length k1),(12,.int .i64 (d.Aa.length:Int)),(13,.int .i64 i1),(19,.slice p5 y1.Ah.length k5),(20,.int .i64 (y1.Ah.length:Int)),(21,.int .i64 i2)]∧SH w w' [Ch.box bb2 (qha y1 p5 k5) 184,Ch.own S2 (x2:List Tplace) [.slice p6 ln2 k6],Ch.box bb1 (qaQ d p1 p2 p3 k1 k2 k3) 45]) m1 ⟨_,_,_,_,_,_,hF,rfl,h⟩ rfl ?_)
  rintro m2 e2 w5 ⟨S2,p6,ln2,k6,x2,i2,hF,rfl,h⟩
  obtain rfl:=(h.sl 1 rfl).2
  rcases m2 with _|m2
  ·cases hF
  refine X0 5 rfl (qh rfl hF ?_ ?_)<;>intro hF
  ·refine X0 6 rfl ?_
   obtain ⟨y2,hy2,hF,he2,b2,_,q2,cs3,hp2,hq2,rfl,hc4⟩:=s4.ix hF
   refine zxe hp2 hq2 he2 rfl (zc 0 (hc4.below h.below) rfl (X1 14 0 h rfl (r_v (qdA qb [0,1,2,3] [.tmp 27,.tmp 28,.tmp 29,.tmp 35] rfl rfl rfl rfl rfl rfl rfl rfl) rfl (qab qb [.tmp 36] _ ([(⟨i1,i2,y2,(i2==(W64 ((y1.Ah.length:Int)-1)))⟩:Tplace)]:List Tplace) h rfl rfl rfl rfl rfl rfl rfl rfl rfl ⟨(qh5 (⟨i1,i2,y2,(i2==(W64 ((y1.Ah.length:Int)-1)))⟩:Tplace)),trivial⟩ rfl fun w6 p7 S3 h=>?_))))
   obtain ⟨x3,hx1,hF⟩:=qf hF
   obtain ⟨g1,hx1⟩:=qaY hx1
   refine qei qb 2 h rfl (h.sl 0 rfl).1 (h.sl 0 rfl).2 rfl rfl rfl rfl rfl rfl rfl rfl rfl g1 hx1 rfl fun w7 p8 k7 S4 h=>X0 7 rfl ?_
   replace h:=h.pick [1,2,3] rfl
   exact rK ⟨_,_,_,_,_,_,hF,rfl,h⟩ rfl
  refine qr rfl ?_
  obtain rfl:=qa hF;replace hF:=hK2
  refine X0 5 rfl ?_
  replace h:=h.pick [1,2] rfl
  exact rK ⟨_,_,_,_,_,_,hF,rfl,h⟩ rfl
 refine qr rfl ?_
 obtain rfl:=qa hF;replace hF:=hK1
 refine X1 8 1 h rfl ?_
 obtain ⟨o3,hF,hK3⟩:=qf hF
 refine ql ?_
 replace h:=h.pick [0] rfl
 refine rL (fun m e w'=>∃ (S5:Nat→Prop) (p9:Option Addr) (ln3:Nat) (k8:Nat) (x4:(List Tplace)) (i3:Int),qa5 d m x4 i3=some o3∧e=[(3,.slice p9 ln3 k8),(42,.slice p3 d.Af.length k3),(43,.int .i64 (d.Af.length:Int)),(44,.int .i64 i3)]∧SH w w' [Ch.own S5 (x4:List Tplace) [.slice p9 ln3 k8]]) n ⟨_,_,_,_,_,_,hF,rfl,h⟩ rfl ?_
 rintro m3 e3 w8 ⟨S5,p9,ln3,k8,x4,i3,hF,rfl,h⟩
 obtain rfl:=(h.sl 0 rfl).2
 rcases m3 with _|m3
 ·cases hF
 refine X0 5 rfl (qh rfl hF ?_ ?_)<;>intro hF
 ·refine X0 6 rfl ?_
  obtain ⟨y3,hy3,hF,he3,b3,_,q3,cs4,hp3,hq3,hr3,hc6⟩:=s3.ix hF
  obtain rfl:=qak hr3
  refine zxe hp3 hq3 he3 rfl (zc 0 (hc6.below h.below) rfl (qx qb h rfl rfl rfl fun w9 bb3 h=>zp1 rfl (zs 0 h rfl fun w10 h=>X2 9 0 0 h rfl (r_v (qdA qb [0,1,2,3] [.const (.int .i64 (-1)),.tmp 50,.tmp 52,.tmp 55] rfl rfl rfl rfl rfl rfl rfl rfl) rfl (qab qb [.tmp 56] _ ([(⟨(-1),i3,y3.Bo,(y3.Bm==1)⟩:Tplace)]:List Tplace) h rfl rfl rfl rfl rfl rfl rfl rfl rfl ⟨(qh5 (⟨(-1),i3,y3.Bo,(y3.Bm==1)⟩:Tplace)),trivial⟩ rfl fun w11 p10 S6 h=>?_)))))
  obtain ⟨x5,hx2,hF⟩:=qf hF
  obtain ⟨g2,hx2⟩:=qaY hx2
  refine qei qb 2 h rfl (h.sl 0 rfl).1 (h.sl 0 rfl).2 rfl rfl rfl rfl rfl rfl rfl rfl rfl g2 hx2 rfl fun w12 p11 k9 S7 h=>X0 7 rfl ?_
  replace h:=h.pick [2] rfl
  exact rK ⟨_,_,_,_,_,_,hF,rfl,h⟩ rfl
 refine qr rfl ?_
 obtain rfl:=qa hF;replace hF:=hK3
 refine X0 5 rfl ?_
 obtain rfl:=qa hF
 exact rO 0 h rfl ⟨rfl,trivial⟩
def qaI (a_w:qw):Nat→Int→Option (Flow Bool Int)
 | 0,_=>none
 | n+1,i1 =>
  bif decide (i1<(a_w.Ai.length:Int)) then
   (idx a_w.Ai i1).bind fun y1 =>
   bif (i1==0) then
    bif (y1 != (-1)) then some (.ret false) else
    (idx a_w.Bn 0).bind fun y2 =>
    bif (y2 != 0) then some (.ret false) else
    bif decide (i1 > 0) then
     (qam n y1 0 (W64 (i1-1))).bind fun r1 =>
     bif (!r1) then some (.ret false) else
     qaI a_w n (W64 (i1+1))
    else
     qaI a_w n (W64 (i1+1))
   else
    bif decide (i1 > 0) then
     (qam n y1 0 (W64 (i1-1))).bind fun r2 =>
     bif (!r2) then some (.ret false) else
     qaI a_w n (W64 (i1+1))
    else
     qaI a_w n (W64 (i1+1))
  else
   some (.nxt i1)
def qfz (n:Nat) (a_w:qw):Option Bool :=
 (qaI a_w n 0).bind fun o=>match o with
 | .ret r=>some r
 | .nxt _ =>
  some true
theorem qkB {a_w:qw} (ha1:GoT.R w (old w) a_w cs1) {r:Bool} (hF:qfz n a_w=some r):RetV Tryz.prog 219 [GoT.v qw cs1] w r:=by
 obtain ⟨p1,k1,p2,k2,p3,k3,p4,k4,rfl,s1,s2,s3,s4⟩:=qa0 ha1
 refine zV 38 Tryz.func219 rfl fun h=>zSR (qu h rfl rfl fun w1 bb1 h=>X1 10 0 h rfl ?_)
 obtain ⟨o1,hF,hK1⟩:=qf hF
 refine ql (rL (fun m e w'=>∃ (i1:Int),qaI a_w m i1=some o1∧e=[(1,.pointer (some ⟨bb1,0,none⟩)),(6,.slice p1 a_w.Ai.length k1),(7,.int .i64 (a_w.Ai.length:Int)),(8,.int .i64 i1)]∧SH w w' [Ch.box bb1 (qgw a_w p1 p2 p3 p4 k1 k2 k3 k4) 215]) n ⟨_,hF,rfl,h⟩ rfl ?_)
 rintro m1 e1 w2 ⟨i1,hF,rfl,h⟩
 rcases m1 with _|m1
 ·cases hF
 refine X0 5 rfl (qh rfl hF ?_ ?_)<;>intro hF
 ·refine X0 6 rfl ?_
  obtain ⟨y1,hy1,hF,he1,b1,_,q1,cs2,hp1,hq1,rfl,hc2⟩:=s1.ix hF
  refine zxe hp1 hq1 he1 rfl (zc 0 (hc2.below h.below) rfl (X0 8 rfl (qg (t:=15) hF rfl ?_ ?_)))<;>intro hF
  ·refine X0 6 rfl (qg (t:=18) hF rfl ?_ ?_)<;>intro hF
   ·refine X0 20 rfl (qb2 rfl rfl (X0 4 rfl ?_))
    obtain rfl:=qa hF;replace hF:=hK1
    exact rb h hF rfl
   refine X1 5 0 h rfl ?_
   obtain ⟨y2,hy2,hF,he2,b2,_,q2,cs3,hp2,hq2,rfl,hc3⟩:=s2.ix hF
   refine zxe hp2 hq2 he2 rfl (X0 1 rfl (zc 0 (hc3.below h.below) rfl (X0 6 rfl (qg (t:=26) hF rfl ?_ ?_))))<;>intro hF
   ·refine X0 11 rfl (qb2 rfl rfl (X0 4 rfl ?_))
    obtain rfl:=qa hF;replace hF:=hK1
    exact rb h hF rfl
   refine X0 6 rfl (qg (t:=29) hF rfl ?_ ?_)<;>intro hF
   ·refine X0 7 rfl (zcB h hF qac rfl fun r1 w3 h hF=>X0 6 rfl (qh rfl hF ?_ ?_))<;>intro hF
    ·refine X0 4 rfl ?_
     obtain rfl:=qa hF;replace hF:=hK1
     exact rb h hF rfl
    exact X0 6 rfl (rK ⟨_,hF,rfl,h⟩ rfl)
   exact X0 9 rfl (qcU rfl rfl (X0 6 rfl (rK ⟨_,hF,rfl,h⟩ rfl)))
  refine X0 17 rfl (qg (t:=29) hF rfl ?_ ?_)<;>intro hF
  ·refine X0 7 rfl (zcB h hF qac rfl fun r2 w4 h hF=>X0 6 rfl (qh rfl hF ?_ ?_))<;>intro hF
   ·refine X0 4 rfl ?_
    obtain rfl:=qa hF;replace hF:=hK1
    exact rb h hF rfl
   exact X0 6 rfl (rK ⟨_,hF,rfl,h⟩ rfl)
  exact X0 9 rfl (qcU rfl rfl (X0 6 rfl (rK ⟨_,hF,rfl,h⟩ rfl)))
 refine qr rfl ?_
 obtain rfl:=qa hF;replace hF:=hK1
 exact X0 4 rfl (rb h hF rfl)
def qiC (n:Nat) (a_w:qw) (sinks:Int):Option Bool :=
 (qaR n a_w.Ai).bind fun r1 =>
 (qam n r1 1 8).bind fun r2 =>
 bif r2 then
  (qaR n a_w.Bn).bind fun r3 =>
  bif (r3==r1) then
   (qaR n a_w.Bk).bind fun r4 =>
   bif (r4==r1) then
    (qfz n a_w).bind fun r5 =>
    bif r5 then
     (qbK n a_w.Bn 0 1000).bind fun r6 =>
     bif r6 then
      (qbK n a_w.Bk 0 500).bind fun r7 =>
      bif r7 then
       (qaR n a_w.Bg).bind fun r8 =>
       bif (r8==sinks) then
        (qbK n a_w.Bg 0 (W64 (r1-1))).bind fun r9 =>
        some r9
       else
        some false
      else
       some false
     else
      some false
    else
     some false
   else
    some false
  else
   some false
 else
  some false
theorem qnD {a_w:qw} {sinks:Int} (ha1:GoT.R w (old w) a_w cs1) {r:Bool} (hF:qiC n a_w sinks=some r):RetV Tryz.prog 141 [GoT.v qw cs1,.int .i64 sinks] w r:=by
 obtain ⟨p1,k1,p2,k2,p3,k3,p4,k4,rfl,s1,s2,s3,s4⟩:=qa0 ha1
 refine zV 53 Tryz.func141 rfl fun h=>zSR (qu h rfl rfl fun w1 bb1 h=>X1 6 0 h rfl (zcI h hF (qbA ⟨_,_,rfl,(h.oldS s1)⟩) rfl fun r1 w2 h hF=>X0 5 rfl (zcB h hF qac rfl fun r2 w3 h hF=>zp1 rfl (qg (t:=11) hF rfl ?_ ?_))))<;>intro hF
 ·refine X1 5 0 h rfl (zcI h hF (qbA ⟨_,_,rfl,(h.oldS s2)⟩) rfl fun r3 w4 h hF=>X0 6 rfl (qg (t:=18) hF rfl ?_ ?_))<;>intro hF
  ·refine X1 5 0 h rfl (zcI h hF (qbA ⟨_,_,rfl,(h.oldS s3)⟩) rfl fun r4 w5 h hF=>X0 6 rfl (qg (t:=25) hF rfl ?_ ?_))<;>intro hF
   ·refine X1 3 0 h rfl (zcB h hF (qkB (h.old ha1)) rfl fun r5 w6 h hF=>zp2 rfl (qg (t:=29) hF rfl ?_ ?_))<;>intro hF
    ·refine X1 5 0 h rfl (zcB h hF (qcv ⟨_,_,rfl,(h.oldS s2)⟩) rfl fun r6 w7 h hF=>zp2 rfl (qg (t:=34) hF rfl ?_ ?_))<;>intro hF
     ·refine X1 5 0 h rfl (zcB h hF (qcv ⟨_,_,rfl,(h.oldS s3)⟩) rfl fun r7 w8 h hF=>zp2 rfl (qg (t:=39) hF rfl ?_ ?_))<;>intro hF
      ·refine X1 5 0 h rfl (zcI h hF (qbA ⟨_,_,rfl,(h.oldS s4)⟩) rfl fun r8 w9 h hF=>X0 6 rfl (qg (t:=46) hF rfl ?_ ?_))<;>intro hF
       ·exact X1 9 0 h rfl (zcB h hF (qcv ⟨_,_,rfl,(h.oldS s4)⟩) rfl fun r9 w10 h hF=>X0 3 rfl (rb h hF rfl))
       exact X0 8 rfl (rb h hF rfl)
      exact X0 15 rfl (rb h hF rfl)
     exact X0 20 rfl (rb h hF rfl)
    exact X0 25 rfl (rb h hF rfl)
   exact X0 29 rfl (rb h hF rfl)
  exact X0 36 rfl (rb h hF rfl)
 exact X0 43 rfl (rb h hF rfl)
def qdu (b:qk) (x2:(List Int)):Nat→Int→Option (Flow Bool Int)
 | 0,_=>none
 | n+1,i2 =>
  bif decide (i2<(b.Ac.length:Int)) then
   (idx b.Ac i2).bind fun y4 =>
   (idx x2 i2).bind fun y5 =>
   (qiC n y4 y5).bind fun r2 =>
   bif (!r2) then some (.ret false) else
   qdu b x2 n (W64 (i2+1))
  else
   some (.nxt i2)
def qb1 (r1:(List Tplace)):Nat→(List Int)→Int→Option ((List Int) × Int)
 | 0,_,_=>none
 | n+1,x2,i1 =>
  bif decide (i1<(r1.length:Int)) then
   (idx r1 i1).bind fun y1 =>
   bif (!y1.drives) then
    (idx x2 y1.net).bind fun y2 =>
    (idx x2 y1.net).bind fun _ =>
    qb1 r1 n (setS x2 y1.net (W64 (y2+1))) (W64 (i1+1))
   else
    qb1 r1 n x2 (W64 (i1+1))
  else
   some (x2,i1)
def qhZ (n:Nat) (b:qk):Option Bool :=
 (
  (qg8 n (⟨b.Au.Ak⟩:qn) (⟨b.Ab.Aa,b.Ab.Ah,b.Ab.Af⟩:qc)).bind fun r3 =>
  bif (!r3) then some true else
  some ((b.Ac.length:Int) != (b.Ab.Ah.length:Int))).bind fun b1 =>
 bif b1 then some false else
 (mkS (b.Ac.length:Int) (0:Int)).bind fun x1 =>
 (qbw n (⟨b.Ab.Aa,b.Ab.Ah,b.Ab.Af⟩:qc)).bind fun r1 =>
 (qb1 r1 n x1 0).bind fun o=>match o with
 | (x2,_) =>
  (qdu b x2 n 0).bind fun o=>match o with
  | .ret r=>some r
  | .nxt _ =>
   some true
theorem qmF {b:qk} (ha1:GoT.R w (old w) b cs1) {r:Bool} (hF:qhZ n b=some r):RetV Tryz.prog 59 [GoT.v qk cs1] w r:=by
 obtain ⟨p1,k1,p2,k2,p3,k3,p4,k4,p5,k5,rfl,s1,s2,s3,s4,s5⟩:=qV ha1
 refine zV 63 Tryz.func59 rfl fun h=>zSR (qu h rfl rfl fun w1 bb1 h=>X0 4 rfl ?_)
 obtain ⟨KF1,hKF1,o3,hF,hK3⟩:=bindE hF
 refine qcu (fun e w'=>∃ (b1:Bool),KF1 b1=some r∧e=[(1,.pointer (some ⟨bb1,0,none⟩)),(23,.bool b1)]∧SH w w' [Ch.box bb1 (qaC b p1 p2 p3 p4 p5 k1 k2 k3 k4 k5) 48]) ?_ ?_
 ·refine X2 5 0 0 h rfl (zcB h hF (ql0 (qdC _ (h.oldS s1)) (qaF _ (h.oldS s2) (h.oldS s3) (h.oldS s4))) rfl fun r3 w12 h hF=>zp2 rfl (qg (t:=14) hF rfl ?_ ?_))<;>intro hF
  ·refine X0 10 rfl ?_
   obtain rfl:=qa hF
   exact rG ⟨_,hK3,rfl,h⟩ rfl
  refine X2 18 0 0 h rfl ?_
  obtain rfl:=qa hF
  exact rG ⟨_,hK3,rfl,h⟩ rfl
 rintro e3 w13 ⟨b1,hF,rfl,h⟩
 subst hKF1
 refine qh rfl hF ?_ ?_<;>intro hF
 ·exact X0 4 rfl (rb h hF rfl)
 refine X1 6 0 h rfl ?_
 obtain ⟨x1,hx1,hF⟩:=qf hF
 obtain ⟨g1,g2,hx1⟩:=qbH hx1
 refine qcR qb Int h rfl rfl rfl rfl rfl rfl rfl rfl rfl g1 g2 hx1 rfl fun w2 S1 p6 h=>X1 7 1 h rfl (zcL h hF (qdm (qaF _ (h.oldS s2) (h.oldS s3) (h.oldS s4))) rfl fun r1 w3 S2 p7 k6 h hF=>X0 3 rfl ?_)
 obtain ⟨o1,hF,hK1⟩:=qf hF
 refine ql (rL (fun m e w'=>∃ (x2:(List Int)) (i1:Int),qb1 r1 m x2 i1=some o1∧e=[(1,.pointer (some ⟨bb1,0,none⟩)),(3,.slice p6 x1.length x1.length),(30,.slice p7 r1.length k6),(31,.int .i64 (r1.length:Int)),(32,.int .i64 i1)]∧SH w w' [Ch.own S2 (r1:List Tplace) [.slice p7 r1.length k6],Ch.own S1 (x2:List Int) [.slice p6 x1.length x1.length],Ch.box bb1 (qaC b p1 p2 p3 p4 p5 k1 k2 k3 k4 k5) 48]) n ⟨_,_,hF,rfl,h⟩ rfl ?_)
 rintro m1 e1 w4 ⟨x2,i1,hF,rfl,h⟩
 rcases m1 with _|m1
 ·cases hF
 refine X0 5 rfl (qh rfl hF ?_ ?_)<;>intro hF
 ·refine zKSBSR ?_
  obtain ⟨y1,hy1,hF,he1,b2,_,q1,cs2,hp1,hq1,hr2,hc3⟩:=(h.sl 0 rfl).1.ix hF
  obtain rfl:=qfa hr2
  refine zx hp1 hq1 ⟨he1.1,qJ he1.2.1 (h.sl 0 rfl).2⟩ rfl (zc 0 hc3 rfl (qx qb h rfl rfl rfl fun w5 bb2 h=>zs 0 h rfl fun w6 h=>X1 7 0 h rfl (qh rfl hF ?_ ?_)))<;>intro hF
  ·refine X1 4 0 h rfl ?_
   obtain ⟨y2,hy2,hF,he2,b3,_,q2,cs3,hp2,hq2,rfl,hc5⟩:=(h.sl 2 rfl).1.ix hF
   refine zx hp2 hq2 ⟨he2.1,qJ he2.2.1 (h.sl 2 rfl).2⟩ rfl (zc 0 hc5 rfl (zp1 rfl ?_))
   obtain ⟨y3,hy3,hF,he3,b4,_,q3,cs4,hp3,hq3,rfl,hc6⟩:=(h.sl 2 rfl).1.ix hF
   refine zx hp3 hq3 ⟨he3.1,qJ he3.2.1 (h.sl 2 rfl).2⟩ rfl (qaS qb 2 0 (W64 (y2+1)) h rfl hy3 hp3 hq3 rfl hc6 rfl rfl rfl rfl rfl rfl rfl fun w7 h=>X0 6 rfl ?_)
   replace h:=h.pick [1,2,3] rfl
   exact rK ⟨_,_,hF,rfl,h⟩ rfl
  refine X0 6 rfl ?_
  replace h:=h.pick [1,2,3] rfl
  exact rK ⟨_,_,hF,rfl,h⟩ rfl
 refine qr rfl ?_
 obtain rfl:=qa hF;replace hF:=hK1
 refine X1 8 2 h rfl ?_
 obtain ⟨o2,hF,hK2⟩:=qf hF
 refine ql ?_
 replace h:=h.pick [1] rfl
 refine rL (fun m e w'=>∃ (i2:Int),qdu b x2 m i2=some o2∧e=[(3,.slice p6 x1.length x1.length),(48,.slice p5 b.Ac.length k5),(49,.int .i64 (b.Ac.length:Int)),(50,.int .i64 i2)]∧SH w w' [Ch.own S1 (x2:List Int) [.slice p6 x1.length x1.length]]) n ⟨_,hF,rfl,h⟩ rfl ?_
 rintro m2 e2 w8 ⟨i2,hF,rfl,h⟩
 rcases m2 with _|m2
 ·cases hF
 refine X0 5 rfl (qh rfl hF ?_ ?_)<;>intro hF
 ·refine X0 6 rfl ?_
  obtain ⟨y4,hy4,hF,he4,b5,_,q4,cs5,hp4,hq4,hr5,hc8⟩:=s5.ix hF
  obtain ⟨p8,k7,p9,k8,p10,k9,p11,k10,rfl,s6,s7,s8,s9⟩:=qa0 hr5
  refine zxe hp4 hq4 he4 rfl (zc 0 (hc8.below h.below) rfl (qx qb h rfl rfl rfl fun w9 bb3 h=>zp1 rfl (zs 0 h rfl fun w10 h=>zNS (rD (Y1 1 0 h rfl ?_)))))
  refine zd2 rfl ?_
  obtain ⟨y5,hy5,hF,he5,b6,_,q5,cs6,hp5,hq5,rfl,hc9⟩:=(h.sl 1 rfl).1.ix hF
  refine zdx hp5 hq5 ⟨he5.1,qJ he5.2.1 (h.sl 1 rfl).2⟩ rfl (zdc 0 hc9 rfl ?_)
  obtain ⟨r2,hr7,hF⟩:=qf hF
  refine qbF r2 (vsB _) (cB 141 rfl) (fun _ hb=>qnD (qh2 y4 ((h.ext hb).oldS s6) ((h.ext hb).oldS s7) ((h.ext hb).oldS s8) ((h.ext hb).oldS s9)) hr7) rfl rfl rfl rfl (zd1 rfl (dN h fun w11 h=>qh rfl hF ?_ ?_))<;>intro hF
  ·refine X0 4 rfl ?_
   obtain rfl:=qa hF;replace hF:=hK2
   exact rb h hF rfl
  refine X0 6 rfl ?_
  replace h:=h.pick [1] rfl
  exact rK ⟨_,hF,rfl,h⟩ rfl
 refine qr rfl ?_
 obtain rfl:=qa hF;replace hF:=hK2
 exact X0 4 rfl (rb h hF rfl)
end Go.Fw


namespace Go.Fw
open Go
def qay (a:(List Int)):Nat:=a.length
theorem qdF {a:(List Int)} (h:(rngL rngI) a) (w:qay a≤1048576):(okL okI) a :=
 ⟨by simp only [qay] at w;omega,fun x hx=>h.2 x hx⟩
def qgb (x:qq):Prop:=(rngL rngI) x.Be∧(rngL rngI) x.Bf∧(rngL rngI) x.Av
def qcN (x:qq):Nat:=qay x.Be+qay x.Bf+qay x.Av
structure qgr (x:qq):Prop where
 Be:(okL okI) x.Be
 Bf:(okL okI) x.Bf
 Av:(okL okI) x.Av
theorem qql {x:qq} (h:qgb x) (w:qcN x≤1048576):qgr x:=⟨qdF (h.1) (by simp only [qcN] at w;omega),qdF (h.2.1) (by simp only [qcN] at w;omega),qdF (h.2.2) (by simp only [qcN] at w;omega)⟩
def qb3 (a:(List qq)):Nat:=a.length+(a.map fun x=>qcN x).sum
theorem ql9 {a:(List qq)} (h:(rngL qgb) a) (w:qb3 a≤1048576):(okL qgr) a :=
 ⟨by simp only [qb3] at w;omega,fun x hx=>qql (h.2 x hx) (by have:=qbt (wt:=fun x:qq=>qcN x) hx;simp only [qb3] at w;omega)⟩
def qjx (x:qF):Prop:=rngI x.Ay∧rngI x.Bd∧rngI x.To∧rngI x.Bi∧(rngL qgb) x.Bb∧(rngL qgb) x.Az
def qgH (x:qF):Nat:=qb3 x.Bb+qb3 x.Az
structure qkL (x:qF):Prop where
 Ay:okI x.Ay
 Bd:okI x.Bd
 To:okI x.To
 Bi:okI x.Bi
 Bb:(okL qgr) x.Bb
 Az:(okL qgr) x.Az
theorem qr6 {x:qF} (h:qjx x) (w:qgH x≤1048576):qkL x:=⟨h.1,h.2.1,h.2.2.1,h.2.2.2.1,ql9 (h.2.2.2.2.1) (by simp only [qgH] at w;omega),ql9 (h.2.2.2.2.2) (by simp only [qgH] at w;omega)⟩
theorem qdv {a:(List Int)} (h:qay a≤1048576):Ev (fun n=>qaA n a a) true:=by
 have hl:a.length≤1048576:=by simp only [qay] at h;omega
 unfold qaA
 exact Ev.ff (by simp) (Ev.bind (b:=.nxt (a.length:Int)) (qfS (eqf:=fun _ x y=>some (!(x != y))) (fun x _=>Ev.now (by simp))
  (fun n=>by simp only [qdZ,qj (je _),cond_false])
  (fun n j x hx=>by
   have hj:=(List.getElem?_eq_some_iff.1 hx).1
   simp only [qdZ,qi hj,cond_true,qz hx,jd,Bool.not_not,wS j])) .done)
theorem qsW {a:qq} (h:qcN a≤1048576):Ev (fun n=>qge n a a) true:=by
 unfold qge
 simp only [qcN] at h
 exact Ev.bind (qdv (a:=a.Be) (by omega)) (Ev.ff rfl (Ev.bind (qdv (a:=a.Bf) (by omega)) (Ev.ff rfl (Ev.bind (qdv (a:=a.Av) (by omega)) (Ev.ff rfl (.done))))))
theorem qor {a:(List qq)} (h:qb3 a≤1048576):Ev (fun n=>qfI n a a) true:=by
 have hl:a.length≤1048576:=by simp only [qb3] at h;omega
 unfold qfI
 exact Ev.ff (by simp) (Ev.bind (b:=.nxt (a.length:Int)) (qfS (eqf:=qge) (fun x hx=>qsW (by have:=qbt (wt:=fun x:qq=>qcN x) hx;simp only [qb3] at h;omega))
  (fun n=>by simp only [qd1,qj (je _),cond_false])
  (fun n j x hx=>by
   have hj:=(List.getElem?_eq_some_iff.1 hx).1
   simp only [qd1,qi hj,cond_true,qz hx,jd,wS j])) .done)
theorem quf {a:qF} (h:qgH a≤1048576):Ev (fun n=>qil n a a) true:=by
 unfold qil
 simp only [qgH] at h
 exact Ev.ff qav (Ev.ff qav (Ev.ff qav (Ev.ff qav (Ev.bind (qor (a:=a.Bb) (by omega)) (Ev.ff rfl (Ev.bind (qor (a:=a.Az) (by omega)) (Ev.ff rfl (.done))))))))
def qfC (a:(List qF)):Nat:=a.length+(a.map fun x=>qgH x).sum
theorem qrG {a:(List qF)} (h:(rngL qjx) a) (w:qfC a≤1048576):(okL qkL) a :=
 ⟨by simp only [qfC] at w;omega,fun x hx=>qr6 (h.2 x hx) (by have:=qbt (wt:=fun x:qF=>qgH x) hx;simp only [qfC] at w;omega)⟩
theorem qtK {a:(List qF)} (h:qfC a≤1048576):Ev (fun n=>qiT n a a) true:=by
 have hl:a.length≤1048576:=by simp only [qfC] at h;omega
 unfold qiT
 exact Ev.ff (by simp) (Ev.bind (b:=.nxt (a.length:Int)) (qfS (eqf:=qil) (fun x hx=>quf (by have:=qbt (wt:=fun x:qF=>qgH x) hx;simp only [qfC] at h;omega))
  (fun n=>by simp only [qe5,qj (je _),cond_false])
  (fun n j x hx=>by
   have hj:=(List.getElem?_eq_some_iff.1 hx).1
   simp only [qe5,qi hj,cond_true,qz hx,jd,wS j])) .done)
def qjj (x:qO):Prop:=rngS x.Ar∧rngI x.Bm∧rngI x.Bk∧rngB x.Bh
def qic (x:qO):Nat:=x.Ar.size
structure qkb (x:qO):Prop where
 Ar:okS x.Ar
 Bm:okI x.Bm
 Bk:okI x.Bk
 Bh:okT x.Bh
theorem qsd {x:qO} (h:qjj x) (w:qic x≤1048576):qkb x:=⟨(by unfold okS;simp only [qic] at w;omega),h.2.1,h.2.2.1,trivial⟩
def qfB (a:(List qO)):Nat:=a.length+(a.map fun x=>qic x).sum
theorem qrQ {a:(List qO)} (h:(rngL qjj) a) (w:qfB a≤1048576):(okL qkb) a :=
 ⟨by simp only [qfB] at w;omega,fun x hx=>qsd (h.2 x hx) (by have:=qbt (wt:=fun x:qO=>qic x) hx;simp only [qfB] at w;omega)⟩
def qiv (x:qp):Prop:=rngS x.Ar∧rngI x.Ay∧(rngL qjj) x.Am∧(rngL qjx) x.Aj∧(rngL rngI) x.Bc∧rngI x.Bq∧rngI x.Bj
def qeb (x:qp):Nat:=x.Ar.size+qfB x.Am+qfC x.Aj+qay x.Bc
structure qkp (x:qp):Prop where
 Ar:okS x.Ar
 Ay:okI x.Ay
 Am:(okL qkb) x.Am
 Aj:(okL qkL) x.Aj
 Bc:(okL okI) x.Bc
 Bq:okI x.Bq
 Bj:okI x.Bj
theorem qrZ {x:qp} (h:qiv x) (w:qeb x≤1048576):qkp x:=⟨(by unfold okS;simp only [qeb] at w;omega),h.2.1,qrQ (h.2.2.1) (by simp only [qeb] at w;omega),qrG (h.2.2.2.1) (by simp only [qeb] at w;omega),qdF (h.2.2.2.2.1) (by simp only [qeb] at w;omega),h.2.2.2.2.2.1,h.2.2.2.2.2.2⟩
def qes (a:(List qp)):Nat:=a.length+(a.map fun x=>qeb x).sum
theorem qqk {a:(List qp)} (h:(rngL qiv) a) (w:qes a≤1048576):(okL qkp) a :=
 ⟨by simp only [qes] at w;omega,fun x hx=>qrZ (h.2 x hx) (by have:=qbt (wt:=fun x:qp=>qeb x) hx;simp only [qes] at w;omega)⟩
def qiH (x:qn):Prop:=(rngL qiv) x.Ak
def qcZ (x:qn):Nat:=qes x.Ak
structure qf4 (x:qn):Prop where
 Ak:(okL qkp) x.Ak
theorem qoT {x:qn} (h:qiH x) (w:qcZ x≤1048576):qf4 x:=⟨qqk (h) (by simp only [qcZ] at w;omega)⟩
def qel (x:qd):Prop:=rngS x.Ar∧rngI x.Bl∧(rngL rngI) x.Ah
def qa7 (x:qd):Nat:=x.Ar.size+qay x.Ah
structure qjW (x:qd):Prop where
 Ar:okS x.Ar
 Bl:okI x.Bl
 Ah:(okL okI) x.Ah
theorem qnO {x:qd} (h:qel x) (w:qa7 x≤1048576):qjW x:=⟨(by unfold okS;simp only [qa7] at w;omega),h.2.1,qdF (h.2.2) (by simp only [qa7] at w;omega)⟩
def qbb (a:(List qd)):Nat:=a.length+(a.map fun x=>qa7 x).sum
theorem qmX {a:(List qd)} (h:(rngL qel) a) (w:qbb a≤1048576):(okL qjW) a :=
 ⟨by simp only [qbb] at w;omega,fun x hx=>qnO (h.2 x hx) (by have:=qbt (wt:=fun x:qd=>qa7 x) hx;simp only [qbb] at w;omega)⟩
def qdb (a:(List ByteArray)):Nat:=a.length+(a.map fun x=>x.size).sum
theorem qoQ {a:(List ByteArray)} (_:(rngL rngS) a) (w:qdb a≤1048576):(okL okS) a :=
 ⟨by simp only [qdb] at w;omega,fun x hx=>(by unfold okS;have:=qbt (wt:=fun x:ByteArray=>x.size) hx;simp only [qdb] at w;omega)⟩
def qio (x:qB):Prop:=rngS x.Ar∧rngI x.Bm∧rngI x.Bo
def qfY (x:qB):Nat:=x.Ar.size
structure qoN (x:qB):Prop where
 Ar:okS x.Ar
 Bm:okI x.Bm
 Bo:okI x.Bo
theorem qrY {x:qB} (h:qio x) (w:qfY x≤1048576):qoN x:=⟨(by unfold okS;simp only [qfY] at w;omega),h.2.1,h.2.2⟩
def qey (a:(List qB)):Nat:=a.length+(a.map fun x=>qfY x).sum
theorem qqr {a:(List qB)} (h:(rngL qio) a) (w:qey a≤1048576):(okL qoN) a :=
 ⟨by simp only [qey] at w;omega,fun x hx=>qrY (h.2 x hx) (by have:=qbt (wt:=fun x:qB=>qfY x) hx;simp only [qey] at w;omega)⟩
def qjh (x:qc):Prop:=(rngL qel) x.Aa∧(rngL rngS) x.Ah∧(rngL qio) x.Af
def qdj (x:qc):Nat:=qbb x.Aa+qdb x.Ah+qey x.Af
structure qh3 (x:qc):Prop where
 Aa:(okL qjW) x.Aa
 Ah:(okL okS) x.Ah
 Af:(okL qoN) x.Af
theorem qpz {x:qc} (h:qjh x) (w:qdj x≤1048576):qh3 x:=⟨qmX (h.1) (by simp only [qdj] at w;omega),qoQ (h.2.1) (by simp only [qdj] at w;omega),qqr (h.2.2) (by simp only [qdj] at w;omega)⟩
def qip (x:qw):Prop:=(rngL rngI) x.Ai∧(rngL rngI) x.Bn∧(rngL rngI) x.Bk∧(rngL rngI) x.Bg
def qd9 (x:qw):Nat:=qay x.Ai+qay x.Bn+qay x.Bk+qay x.Bg
structure qlb (x:qw):Prop where
 Ai:(okL okI) x.Ai
 Bn:(okL okI) x.Bn
 Bk:(okL okI) x.Bk
 Bg:(okL okI) x.Bg
theorem qrD {x:qw} (h:qip x) (w:qd9 x≤1048576):qlb x:=⟨qdF (h.1) (by simp only [qd9] at w;omega),qdF (h.2.1) (by simp only [qd9] at w;omega),qdF (h.2.2.1) (by simp only [qd9] at w;omega),qdF (h.2.2.2) (by simp only [qd9] at w;omega)⟩
def qeo (a:(List qw)):Nat:=a.length+(a.map fun x=>qd9 x).sum
theorem qqV {a:(List qw)} (h:(rngL qip) a) (w:qeo a≤1048576):(okL qlb) a :=
 ⟨by simp only [qeo] at w;omega,fun x hx=>qrD (h.2 x hx) (by have:=qbt (wt:=fun x:qw=>qd9 x) hx;simp only [qeo] at w;omega)⟩
def qks (x:qk):Prop:=qiH x.Au∧qjh x.Ab∧(rngL qip) x.Ac
def qeq (x:qk):Nat:=qcZ x.Au+qdj x.Ab+qeo x.Ac
structure qj3 (x:qk):Prop where
 Au:qf4 x.Au
 Ab:qh3 x.Ab
 Ac:(okL qlb) x.Ac
theorem qqG {x:qk} (h:qks x) (w:qeq x≤1048576):qj3 x:=⟨qoT (h.1) (by simp only [qeq] at w;omega),qpz (h.2.1) (by simp only [qeq] at w;omega),qqV (h.2.2) (by simp only [qeq] at w;omega)⟩
theorem qt4 {a:qO} (_:qic a≤1048576):Ev (fun n=>qia n a a) true:=by
 unfold qia
 exact Ev.ff qhI (Ev.ff qav (Ev.ff qav (Ev.ff qph (.done))))
theorem qtk {a:(List qO)} (h:qfB a≤1048576):Ev (fun n=>qiP n a a) true:=by
 have hl:a.length≤1048576:=by simp only [qfB] at h;omega
 unfold qiP
 exact Ev.ff (by simp) (Ev.bind (b:=.nxt (a.length:Int)) (qfS (eqf:=qia) (fun x hx=>qt4 (by have:=qbt (wt:=fun x:qO=>qic x) hx;simp only [qfB] at h;omega))
  (fun n=>by simp only [qfd,qj (je _),cond_false])
  (fun n j x hx=>by
   have hj:=(List.getElem?_eq_some_iff.1 hx).1
   simp only [qfd,qi hj,cond_true,qz hx,jd,wS j])) .done)
theorem qtS {a:qp} (h:qeb a≤1048576):Ev (fun n=>qhl n a a) true:=by
 unfold qhl
 simp only [qeb] at h
 exact Ev.ff qhI (Ev.ff qav (Ev.bind (qtk (a:=a.Am) (by omega)) (Ev.ff rfl (Ev.bind (qtK (a:=a.Aj) (by omega)) (Ev.ff rfl (Ev.bind (qdv (a:=a.Bc) (by omega)) (Ev.ff rfl (Ev.ff qav (Ev.ff qav (.done))))))))))
theorem qsw {a:(List qp)} (h:qes a≤1048576):Ev (fun n=>qhR n a a) true:=by
 have hl:a.length≤1048576:=by simp only [qes] at h;omega
 unfold qhR
 exact Ev.ff (by simp) (Ev.bind (b:=.nxt (a.length:Int)) (qfS (eqf:=qhl) (fun x hx=>qtS (by have:=qbt (wt:=fun x:qp=>qeb x) hx;simp only [qes] at h;omega))
  (fun n=>by simp only [qeC,qj (je _),cond_false])
  (fun n j x hx=>by
   have hj:=(List.getElem?_eq_some_iff.1 hx).1
   simp only [qeC,qi hj,cond_true,qz hx,jd,wS j])) .done)
theorem qqx {a:qn} (h:qcZ a≤1048576):Ev (fun n=>qgF n a a) true:=by
 unfold qgF
 simp only [qcZ] at h
 exact Ev.bind (qsw (a:=a.Ak) (by omega)) (Ev.ff rfl (.done))
theorem qpr {a:qd} (h:qa7 a≤1048576):Ev (fun n=>qeL n a a) true:=by
 unfold qeL
 simp only [qa7] at h
 exact Ev.ff qhI (Ev.ff qav (Ev.bind (qdv (a:=a.Ah) (by omega)) (Ev.ff rfl (.done))))
theorem qoL {a:(List qd)} (h:qbb a≤1048576):Ev (fun n=>qfv n a a) true:=by
 have hl:a.length≤1048576:=by simp only [qbb] at h;omega
 unfold qfv
 exact Ev.ff (by simp) (Ev.bind (b:=.nxt (a.length:Int)) (qfS (eqf:=qeL) (fun x hx=>qpr (by have:=qbt (wt:=fun x:qd=>qa7 x) hx;simp only [qbb] at h;omega))
  (fun n=>by simp only [qcF,qj (je _),cond_false])
  (fun n j x hx=>by
   have hj:=(List.getElem?_eq_some_iff.1 hx).1
   simp only [qcF,qi hj,cond_true,qz hx,jd,wS j])) .done)
theorem qqy {a:(List ByteArray)} (h:qdb a≤1048576):Ev (fun n=>qgs n a a) true:=by
 have hl:a.length≤1048576:=by simp only [qdb] at h;omega
 unfold qgs
 exact Ev.ff (by simp) (Ev.bind (b:=.nxt (a.length:Int)) (qfS (eqf:=fun _ x y=>some (!(x.toList != y.toList))) (fun x _=>Ev.now (by simp))
  (fun n=>by simp only [qdM,qj (je _),cond_false])
  (fun n j x hx=>by
   have hj:=(List.getElem?_eq_some_iff.1 hx).1
   simp only [qdM,qi hj,cond_true,qz hx,jd,Bool.not_not,wS j])) .done)
theorem qtP {a:qB} (_:qfY a≤1048576):Ev (fun n=>qhf n a a) true:=by
 unfold qhf
 exact Ev.ff qhI (Ev.ff qav (Ev.ff qav (.done)))
theorem qsH {a:(List qB)} (h:qey a≤1048576):Ev (fun n=>qhO n a a) true:=by
 have hl:a.length≤1048576:=by simp only [qey] at h;omega
 unfold qhO
 exact Ev.ff (by simp) (Ev.bind (b:=.nxt (a.length:Int)) (qfS (eqf:=qhf) (fun x hx=>qtP (by have:=qbt (wt:=fun x:qB=>qfY x) hx;simp only [qey] at h;omega))
  (fun n=>by simp only [qez,qj (je _),cond_false])
  (fun n j x hx=>by
   have hj:=(List.getElem?_eq_some_iff.1 hx).1
   simp only [qez,qi hj,cond_true,qz hx,jd,wS j])) .done)
theorem qrR {a:qc} (h:qdj a≤1048576):Ev (fun n=>qg5 n a a) true:=by
 unfold qg5
 simp only [qdj] at h
 exact Ev.bind (qoL (a:=a.Aa) (by omega)) (Ev.ff rfl (Ev.bind (qqy (a:=a.Ah) (by omega)) (Ev.ff rfl (Ev.bind (qsH (a:=a.Af) (by omega)) (Ev.ff rfl (.done))))))
theorem qtx {a:qw} (h:qd9 a≤1048576):Ev (fun n=>qhd n a a) true:=by
 unfold qhd
 simp only [qd9] at h
 exact Ev.bind (qdv (a:=a.Ai) (by omega)) (Ev.ff rfl (Ev.bind (qdv (a:=a.Bn) (by omega)) (Ev.ff rfl (Ev.bind (qdv (a:=a.Bk) (by omega)) (Ev.ff rfl (Ev.bind (qdv (a:=a.Bg) (by omega)) (Ev.ff rfl (.done))))))))
theorem qr2 {a:(List qw)} (h:qeo a≤1048576):Ev (fun n=>qhF n a a) true:=by
 have hl:a.length≤1048576:=by simp only [qeo] at h;omega
 unfold qhF
 exact Ev.ff (by simp) (Ev.bind (b:=.nxt (a.length:Int)) (qfS (eqf:=qhd) (fun x hx=>qtx (by have:=qbt (wt:=fun x:qw=>qd9 x) hx;simp only [qeo] at h;omega))
  (fun n=>by simp only [qeA,qj (je _),cond_false])
  (fun n j x hx=>by
   have hj:=(List.getElem?_eq_some_iff.1 hx).1
   simp only [qeA,qi hj,cond_true,qz hx,jd,wS j])) .done)
theorem qsh {a:qk} (h:qeq a≤1048576):Ev (fun n=>qhW n a a) true:=by
 unfold qhW
 simp only [qeq] at h
 exact Ev.bind (qqx (a:=a.Au) (by omega)) (Ev.ff rfl (Ev.bind (qrR (a:=a.Ab) (by omega)) (Ev.ff rfl (Ev.bind (qr2 (a:=a.Ac) (by omega)) (Ev.ff rfl (.done))))))
theorem qfy {a:(List Int)} {left:Int} (h:(rngL rngI) a) (h0:0≤left) (h1:left≤1048576):Sz (fun n=>qbs n a left) (fun r=>r=left-(qay a:Int)) :=
 Sz.less h0 h1 (by omega) (by have:=h.1;omega) (fun _=>rfl)
theorem qsj {a:qq} {left:Int} (h:qgb a) (h0:0≤left) (h1:left≤1048576):Sz (fun n=>qgx n a left) (fun r=>r=left-(qcN a:Int)):=by
 unfold qgx
 obtain ⟨h_0,h_1,h_2⟩:=h
 exact Sz.step (qfy (a:=a.Be) h_0 (by omega) (by omega)) fun r0 p0 q0=>Sz.step (qfy (a:=a.Bf) h_1 (by omega) (by omega)) fun r1 p1 q1=>Sz.step (qfy (a:=a.Av) h_2 (by omega) (by omega)) fun r2 p2 q2=>Sz.done p2 (by simp only [qcN];omega)
theorem qoA {a:(List qq)} {left:Int} (h:(rngL qgb) a) (h0:0≤left) (h1:left≤1048576):Sz (fun n=>qg9 n a left) (fun r=>r=left-(qb3 a:Int)) :=
 Sz.list (Lf:=qc4 a) (wt:=fun x:qq=>qcN x) (el:=qgx) h0 h1 h.1 (fun x hx left p q=>qsj (h.2 x hx) p q)
  (fun acc n=>by simp only [qc4,qj (je _),cond_false])
  (fun acc n j x hx=>by
   have hj:=(List.getElem?_eq_some_iff.1 hx).1
   have hl:=h.1
   simp only [qc4,qi hj,cond_true,qz hx,jd,wS j])
  (fun _=>rfl)
theorem qt6 {a:qF} {left:Int} (h:qjx a) (h0:0≤left) (h1:left≤1048576):Sz (fun n=>qh6 n a left) (fun r=>r=left-(qgH a:Int)):=by
 unfold qh6
 obtain ⟨h_0,h_1,h_2,h_3,h_4,h_5⟩:=h
 exact Sz.step (qoA (a:=a.Bb) h_4 (by omega) (by omega)) fun r0 p0 q0=>Sz.step (qoA (a:=a.Az) h_5 (by omega) (by omega)) fun r1 p1 q1=>Sz.done p1 (by simp only [qgH];omega)
theorem qtr {a:(List qF)} {left:Int} (h:(rngL qjx) a) (h0:0≤left) (h1:left≤1048576):Sz (fun n=>qj0 n a left) (fun r=>r=left-(qfC a:Int)) :=
 Sz.list (Lf:=qee a) (wt:=fun x:qF=>qgH x) (el:=qh6) h0 h1 h.1 (fun x hx left p q=>qt6 (h.2 x hx) p q)
  (fun acc n=>by simp only [qee,qj (je _),cond_false])
  (fun acc n j x hx=>by
   have hj:=(List.getElem?_eq_some_iff.1 hx).1
   have hl:=h.1
   simp only [qee,qi hj,cond_true,qz hx,jd,wS j])
  (fun _=>rfl)
theorem quw {a:qO} {left:Int} (h:qjj a) (h0:0≤left) (h1:left≤1048576):Sz (fun n=>qh8 n a left) (fun r=>r=left-(qic a:Int)):=by
 unfold qh8
 obtain ⟨h_0,h_1,h_2,h_3⟩:=h
 exact Sz.strStep h_0 (by omega) (by omega) fun p0 q0=>Sz.done p0 (by simp only [qic];omega)
theorem qtJ {a:(List qO)} {left:Int} (h:(rngL qjj) a) (h0:0≤left) (h1:left≤1048576):Sz (fun n=>qj7 n a left) (fun r=>r=left-(qfB a:Int)) :=
 Sz.list (Lf:=qdY a) (wt:=fun x:qO=>qic x) (el:=qh8) h0 h1 h.1 (fun x hx left p q=>quw (h.2 x hx) p q)
  (fun acc n=>by simp only [qdY,qj (je _),cond_false])
  (fun acc n j x hx=>by
   have hj:=(List.getElem?_eq_some_iff.1 hx).1
   have hl:=h.1
   simp only [qdY,qi hj,cond_true,qz hx,jd,wS j])
  (fun _=>rfl)
theorem qts {a:qp} {left:Int} (h:qiv a) (h0:0≤left) (h1:left≤1048576):Sz (fun n=>qhr n a left) (fun r=>r=left-(qeb a:Int)):=by
 unfold qhr
 obtain ⟨h_0,h_1,h_2,h_3,h_4,h_5,h_6⟩:=h
 exact Sz.strStep h_0 (by omega) (by omega) fun p0 q0=>Sz.step (qtJ (a:=a.Am) h_2 (by omega) (by omega)) fun r1 p1 q1=>Sz.step (qtr (a:=a.Aj) h_3 (by omega) (by omega)) fun r2 p2 q2=>Sz.step (qfy (a:=a.Bc) h_4 (by omega) (by omega)) fun r3 p3 q3=>Sz.done p3 (by simp only [qeb];omega)
theorem qsq {a:(List qp)} {left:Int} (h:(rngL qiv) a) (h0:0≤left) (h1:left≤1048576):Sz (fun n=>qjl n a left) (fun r=>r=left-(qes a:Int)) :=
 Sz.list (Lf:=qdw a) (wt:=fun x:qp=>qeb x) (el:=qhr) h0 h1 h.1 (fun x hx left p q=>qts (h.2 x hx) p q)
  (fun acc n=>by simp only [qdw,qj (je _),cond_false])
  (fun acc n j x hx=>by
   have hj:=(List.getElem?_eq_some_iff.1 hx).1
   have hl:=h.1
   simp only [qdw,qi hj,cond_true,qz hx,jd,wS j])
  (fun _=>rfl)
theorem qqP {a:qn} {left:Int} (h:qiH a) (h0:0≤left) (h1:left≤1048576):Sz (fun n=>qgg n a left) (fun r=>r=left-(qcZ a:Int)):=by
 unfold qgg
 have h_0:=h
 exact Sz.step (qsq (a:=a.Ak) h_0 (by omega) (by omega)) fun r0 p0 q0=>Sz.done p0 (by simp only [qcZ];omega)
theorem qpK {a:qd} {left:Int} (h:qel a) (h0:0≤left) (h1:left≤1048576):Sz (fun n=>qeI n a left) (fun r=>r=left-(qa7 a:Int)):=by
 unfold qeI
 obtain ⟨h_0,h_1,h_2⟩:=h
 exact Sz.strStep h_0 (by omega) (by omega) fun p0 q0=>Sz.step (qfy (a:=a.Ah) h_2 (by omega) (by omega)) fun r1 p1 q1=>Sz.done p1 (by simp only [qa7];omega)
theorem qoW {a:(List qd)} {left:Int} (h:(rngL qel) a) (h0:0≤left) (h1:left≤1048576):Sz (fun n=>qgN n a left) (fun r=>r=left-(qbb a:Int)) :=
 Sz.list (Lf:=qbS a) (wt:=fun x:qd=>qa7 x) (el:=qeI) h0 h1 h.1 (fun x hx left p q=>qpK (h.2 x hx) p q)
  (fun acc n=>by simp only [qbS,qj (je _),cond_false])
  (fun acc n j x hx=>by
   have hj:=(List.getElem?_eq_some_iff.1 hx).1
   have hl:=h.1
   simp only [qbS,qi hj,cond_true,qz hx,jd,wS j])
  (fun _=>rfl)
theorem qqs {a:(List ByteArray)} {left:Int} (h:(rngL rngS) a) (h0:0≤left) (h1:left≤1048576):Sz (fun n=>qih n a left) (fun r=>r=left-(qdb a:Int)) :=
 Sz.list (Lf:=qcs a) (wt:=fun x:ByteArray=>x.size) (el:=fun _ (x:ByteArray) acc=>some (W64 (acc-(x.size:Int)))) h0 h1 h.1 (fun x hx left p q=>Sz.str (h.2 x hx) p q)
  (fun acc n=>by simp only [qcs,qj (je _),cond_false])
  (fun acc n j x hx=>by
   have hj:=(List.getElem?_eq_some_iff.1 hx).1
   have hl:=h.1
   simp only [qcs,qi hj,cond_true,qz hx,jd,wS j])
  (fun _=>rfl)
theorem qs7 {a:qB} {left:Int} (h:qio a) (h0:0≤left) (h1:left≤1048576):Sz (fun n=>qho n a left) (fun r=>r=left-(qfY a:Int)):=by
 unfold qho
 obtain ⟨h_0,h_1,h_2⟩:=h
 exact Sz.strStep h_0 (by omega) (by omega) fun p0 q0=>Sz.done p0 (by simp only [qfY];omega)
theorem qs0 {a:(List qB)} {left:Int} (h:(rngL qio) a) (h0:0≤left) (h1:left≤1048576):Sz (fun n=>qjk n a left) (fun r=>r=left-(qey a:Int)) :=
 Sz.list (Lf:=qdt a) (wt:=fun x:qB=>qfY x) (el:=qho) h0 h1 h.1 (fun x hx left p q=>qs7 (h.2 x hx) p q)
  (fun acc n=>by simp only [qdt,qj (je _),cond_false])
  (fun acc n j x hx=>by
   have hj:=(List.getElem?_eq_some_iff.1 hx).1
   have hl:=h.1
   simp only [qdt,qi hj,cond_true,qz hx,jd,wS j])
  (fun _=>rfl)
theorem qrh {a:qc} {left:Int} (h:qjh a) (h0:0≤left) (h1:left≤1048576):Sz (fun n=>qg4 n a left) (fun r=>r=left-(qdj a:Int)):=by
 unfold qg4
 obtain ⟨h_0,h_1,h_2⟩:=h
 exact Sz.step (qoW (a:=a.Aa) h_0 (by omega) (by omega)) fun r0 p0 q0=>Sz.step (qqs (a:=a.Ah) h_1 (by omega) (by omega)) fun r1 p1 q1=>Sz.step (qs0 (a:=a.Af) h_2 (by omega) (by omega)) fun r2 p2 q2=>Sz.done p2 (by simp only [qdj];omega)
theorem qtd {a:qw} {left:Int} (h:qip a) (h0:0≤left) (h1:left≤1048576):Sz (fun n=>qhu n a left) (fun r=>r=left-(qd9 a:Int)):=by
 unfold qhu
 obtain ⟨h_0,h_1,h_2,h_3⟩:=h
 exact Sz.step (qfy (a:=a.Ai) h_0 (by omega) (by omega)) fun r0 p0 q0=>Sz.step (qfy (a:=a.Bn) h_1 (by omega) (by omega)) fun r1 p1 q1=>Sz.step (qfy (a:=a.Bk) h_2 (by omega) (by omega)) fun r2 p2 q2=>Sz.step (qfy (a:=a.Bg) h_3 (by omega) (by omega)) fun r3 p3 q3=>Sz.done p3 (by simp only [qd9];omega)
theorem qse {a:(List qw)} {left:Int} (h:(rngL qip) a) (h0:0≤left) (h1:left≤1048576):Sz (fun n=>qjz n a left) (fun r=>r=left-(qeo a:Int)) :=
 Sz.list (Lf:=qds a) (wt:=fun x:qw=>qd9 x) (el:=qhu) h0 h1 h.1 (fun x hx left p q=>qtd (h.2 x hx) p q)
  (fun acc n=>by simp only [qds,qj (je _),cond_false])
  (fun acc n j x hx=>by
   have hj:=(List.getElem?_eq_some_iff.1 hx).1
   have hl:=h.1
   simp only [qds,qi hj,cond_true,qz hx,jd,wS j])
  (fun _=>rfl)
theorem qsp {a:qk} {left:Int} (h:qks a) (h0:0≤left) (h1:left≤1048576):Sz (fun n=>qhC n a left) (fun r=>r=left-(qeq a:Int)):=by
 unfold qhC
 obtain ⟨h_0,h_1,h_2⟩:=h
 exact Sz.step (qqP (a:=a.Au) h_0 (by omega) (by omega)) fun r0 p0 q0=>Sz.step (qrh (a:=a.Ab) h_1 (by omega) (by omega)) fun r1 p1 q1=>Sz.step (qse (a:=a.Ac) h_2 (by omega) (by omega)) fun r2 p2 q2=>Sz.done p2 (by simp only [qeq];omega)
theorem qfA {a:(List Int)} (h:qay a≤1048576):Ev (fun n=>qbd n a) a:=by
 have hl:a.length≤1048576:=by simp only [qay] at h;omega
 unfold qbd
 exact Ev.bindN (qfl (by omega)) (Ev.bind (b:=(a,(a.length:Int))) (qfV (cp:=fun _ x=>some x) (fun _ _=>.done)
  (fun acc n=>by simp only [qd4,qj (je _),cond_false])
  (fun acc n j x y hx hy=>by
   have hj:=(List.getElem?_eq_some_iff.1 hx).1
   simp only [qd4,qi hj,cond_true,qz hx,qz hy,jd,wS j])) .done)
theorem qsE {a:qq} (h:qcN a≤1048576):Ev (fun n=>qgv n a) a:=by
 unfold qgv
 simp only [qcN] at h
 exact Ev.bind (qfA (a:=a.Be) (by omega)) (Ev.bind (qfA (a:=a.Bf) (by omega)) (Ev.bind (qfA (a:=a.Av) (by omega)) (.done)))
theorem qoF {a:(List qq)} (h:qb3 a≤1048576):Ev (fun n=>qfK n a) a:=by
 have hl:a.length≤1048576:=by simp only [qb3] at h;omega
 unfold qfK
 exact Ev.bindN (qfl (by omega)) (Ev.bind (b:=(a,(a.length:Int))) (qfV (cp:=qgv) (fun x hx=>qsE (by have:=qbt (wt:=fun x:qq=>qcN x) hx;simp only [qb3] at h;omega))
  (fun acc n=>by simp only [qea,qj (je _),cond_false])
  (fun acc n j x y hx hy=>by
   have hj:=(List.getElem?_eq_some_iff.1 hx).1
   simp only [qea,qi hj,cond_true,qz hx,qz hy,jd,wS j])) .done)
theorem qut {a:qF} (h:qgH a≤1048576):Ev (fun n=>qig n a) a:=by
 unfold qig
 simp only [qgH] at h
 exact Ev.bind (qoF (a:=a.Bb) (by omega)) (Ev.bind (qoF (a:=a.Az) (by omega)) (.done))
theorem qtf {a:(List qF)} (h:qfC a≤1048576):Ev (fun n=>qiL n a) a:=by
 have hl:a.length≤1048576:=by simp only [qfC] at h;omega
 unfold qiL
 exact Ev.bindN (qfl (by omega)) (Ev.bind (b:=(a,(a.length:Int))) (qfV (cp:=qig) (fun x hx=>qut (by have:=qbt (wt:=fun x:qF=>qgH x) hx;simp only [qfC] at h;omega))
  (fun acc n=>by simp only [qe8,qj (je _),cond_false])
  (fun acc n j x y hx hy=>by
   have hj:=(List.getElem?_eq_some_iff.1 hx).1
   simp only [qe8,qi hj,cond_true,qz hx,qz hy,jd,wS j])) .done)
theorem qua {a:qO} (_:qic a≤1048576):Ev (fun n=>qiq n a) a:=by
 unfold qiq
 exact .done
theorem qth {a:(List qO)} (h:qfB a≤1048576):Ev (fun n=>qiD n a) a:=by
 have hl:a.length≤1048576:=by simp only [qfB] at h;omega
 unfold qiD
 exact Ev.bindN (qfl (by omega)) (Ev.bind (b:=(a,(a.length:Int))) (qfV (cp:=qiq) (fun x hx=>qua (by have:=qbt (wt:=fun x:qO=>qic x) hx;simp only [qfB] at h;omega))
  (fun acc n=>by simp only [qff,qj (je _),cond_false])
  (fun acc n j x y hx hy=>by
   have hj:=(List.getElem?_eq_some_iff.1 hx).1
   simp only [qff,qi hj,cond_true,qz hx,qz hy,jd,wS j])) .done)
theorem qtA {a:qp} (h:qeb a≤1048576):Ev (fun n=>qhv n a) a:=by
 unfold qhv
 simp only [qeb] at h
 exact Ev.bind (qth (a:=a.Am) (by omega)) (Ev.bind (qtf (a:=a.Aj) (by omega)) (Ev.bind (qfA (a:=a.Bc) (by omega)) (.done)))
theorem qsU {a:(List qp)} (h:qes a≤1048576):Ev (fun n=>qhS n a) a:=by
 have hl:a.length≤1048576:=by simp only [qes] at h;omega
 unfold qhS
 exact Ev.bindN (qfl (by omega)) (Ev.bind (b:=(a,(a.length:Int))) (qfV (cp:=qhv) (fun x hx=>qtA (by have:=qbt (wt:=fun x:qp=>qeb x) hx;simp only [qes] at h;omega))
  (fun acc n=>by simp only [qeD,qj (je _),cond_false])
  (fun acc n j x y hx hy=>by
   have hj:=(List.getElem?_eq_some_iff.1 hx).1
   simp only [qeD,qi hj,cond_true,qz hx,qz hy,jd,wS j])) .done)
theorem qqw {a:qn} (h:qcZ a≤1048576):Ev (fun n=>qgi n a) a:=by
 unfold qgi
 simp only [qcZ] at h
 exact Ev.bind (qsU (a:=a.Ak) (by omega)) (.done)
theorem qqe {a:qd} (h:qa7 a≤1048576):Ev (fun n=>qeE n a) a:=by
 unfold qeE
 simp only [qa7] at h
 exact Ev.bind (qfA (a:=a.Ah) (by omega)) (.done)
theorem qoI {a:(List qd)} (h:qbb a≤1048576):Ev (fun n=>qfn n a) a:=by
 have hl:a.length≤1048576:=by simp only [qbb] at h;omega
 unfold qfn
 exact Ev.bindN (qfl (by omega)) (Ev.bind (b:=(a,(a.length:Int))) (qfV (cp:=qeE) (fun x hx=>qqe (by have:=qbt (wt:=fun x:qd=>qa7 x) hx;simp only [qbb] at h;omega))
  (fun acc n=>by simp only [qcL,qj (je _),cond_false])
  (fun acc n j x y hx hy=>by
   have hj:=(List.getElem?_eq_some_iff.1 hx).1
   simp only [qcL,qi hj,cond_true,qz hx,qz hy,jd,wS j])) .done)
theorem qqF {a:(List ByteArray)} (h:qdb a≤1048576):Ev (fun n=>qgn n a) a:=by
 have hl:a.length≤1048576:=by simp only [qdb] at h;omega
 unfold qgn
 exact Ev.bindN (qfl (by omega)) (Ev.bind (b:=(a,(a.length:Int))) (qfV (cp:=fun _ x=>some x) (fun _ _=>.done)
  (fun acc n=>by simp only [qdB,qj (je _),cond_false])
  (fun acc n j x y hx hy=>by
   have hj:=(List.getElem?_eq_some_iff.1 hx).1
   simp only [qdB,qi hj,cond_true,qz hx,qz hy,jd,wS j])) .done)
theorem qtl {a:qB} (_:qfY a≤1048576):Ev (fun n=>qhp n a) a:=by
 unfold qhp
 exact .done
theorem qsk {a:(List qB)} (h:qey a≤1048576):Ev (fun n=>qhN n a) a:=by
 have hl:a.length≤1048576:=by simp only [qey] at h;omega
 unfold qhN
 exact Ev.bindN (qfl (by omega)) (Ev.bind (b:=(a,(a.length:Int))) (qfV (cp:=qhp) (fun x hx=>qtl (by have:=qbt (wt:=fun x:qB=>qfY x) hx;simp only [qey] at h;omega))
  (fun acc n=>by simp only [qeG,qj (je _),cond_false])
  (fun acc n j x y hx hy=>by
   have hj:=(List.getElem?_eq_some_iff.1 hx).1
   simp only [qeG,qi hj,cond_true,qz hx,qz hy,jd,wS j])) .done)
theorem qrS {a:qc} (h:qdj a≤1048576):Ev (fun n=>qg1 n a) a:=by
 unfold qg1
 simp only [qdj] at h
 exact Ev.bind (qoI (a:=a.Aa) (by omega)) (Ev.bind (qqF (a:=a.Ah) (by omega)) (Ev.bind (qsk (a:=a.Af) (by omega)) (.done)))
theorem qtM {a:qw} (h:qd9 a≤1048576):Ev (fun n=>qhi n a) a:=by
 unfold qhi
 simp only [qd9] at h
 exact Ev.bind (qfA (a:=a.Ai) (by omega)) (Ev.bind (qfA (a:=a.Bn) (by omega)) (Ev.bind (qfA (a:=a.Bk) (by omega)) (Ev.bind (qfA (a:=a.Bg) (by omega)) (.done))))
theorem qsy {a:(List qw)} (h:qeo a≤1048576):Ev (fun n=>qhM n a) a:=by
 have hl:a.length≤1048576:=by simp only [qeo] at h;omega
 unfold qhM
 exact Ev.bindN (qfl (by omega)) (Ev.bind (b:=(a,(a.length:Int))) (qfV (cp:=qhi) (fun x hx=>qtM (by have:=qbt (wt:=fun x:qw=>qd9 x) hx;simp only [qeo] at h;omega))
  (fun acc n=>by simp only [qeN,qj (je _),cond_false])
  (fun acc n j x y hx hy=>by
   have hj:=(List.getElem?_eq_some_iff.1 hx).1
   simp only [qeN,qi hj,cond_true,qz hx,qz hy,jd,wS j])) .done)
theorem qld {a:qk} (h:qeq a≤1048576):Ev (fun n=>qet n a) a:=by
 unfold qet
 simp only [qeq] at h
 exact Ev.bind (qqw (a:=a.Au) (by omega)) (Ev.bind (qrS (a:=a.Ab) (by omega)) (Ev.bind (qsy (a:=a.Ac) (by omega)) (.done)))
end Go.Fw


namespace Go.Fw
open Go
set_option maxRecDepth 100000
theorem qef {n:Nat} {x lo hi:Int}:qX n x lo hi=some (inI x lo hi):=by
 simp only [qX,qjR,qlw];rfl
theorem qcm {n:Nat} {x lo hi:Int}:qam n x lo hi=some (inI x lo hi):=by
 simp only [qam,qjR,qlw];rfl
def bt (s:ByteArray) (j:Nat):Nat:=(s.data.toList.getD j 0).toNat
theorem qr7 {s:ByteArray} {j:Nat} (h:j<s.size):atS s (j:Int)=some (bt s j:Int):=by
 have h':j<s.data.size:=h
 have hl:j<s.data.toList.length:=by simpa using h'
 unfold atS
 rw [if_pos (by omega),jy]
 have:s[j]?=some (s.data.toList.getD j 0):=by
  rw [getElem?_pos s j h,jJ,ji hl]
  rfl
 rw [this]
 rfl
def letB (b:Nat):Bool:=decide (97≤b)&&decide (b≤122)
def digB (b:Nat):Bool:=decide (48≤b)&&decide (b≤57)
def chB (s:ByteArray) (j:Nat):Bool:=letB (bt s j) || digB (bt s j)&&decide (0<j)
def nameB (s:ByteArray):Bool:=(decide (1≤s.size)&&decide (s.size≤8))&&allN (chB s) s.size
theorem qk3 {s:ByteArray} (h:okS s):Ev (fun n=>qft n s) (nameB s):=by
 unfold okS at h
 have hL:Ev (fun n=>qcA s n 0) (bif allN (chB s) s.size then .nxt (s.size:Int) else .ret false):=by
  refine qde ?_ (fun j hj X hX=>?_)
  ·exact Ev.succ (by simp only [qcA,qj (je _),cond_false];exact .done)
  ·refine Ev.succ ?_
   simp only [qcA,qi hj,cond_true,qr7 hj,jd,qjR,qlw,wS j]
   have e1:(decide ((bt s j:Int) ≥ 97)&&decide ((bt s j:Int)≤122))=letB (bt s j):=by unfold letB;rw [jh];simp;omega
   have e2:(decide ((bt s j:Int) ≥ 48)&&decide ((bt s j:Int)≤57))=digB (bt s j):=by unfold digB;rw [jh];simp;omega
   have e3:decide ((j:Int) > 0)=decide (0<j):=by rw [jh];simp
   rw [e1,e2,e3]
   unfold chB
   cases letB (bt s j)<;>cases digB (bt s j)<;>cases decide (0<j)<;>first|exact hX|exact .done
 unfold qft
 refine Ev.cast (r:=bif allN (chB s) s.size then (decide (1≤s.size)&&decide (s.size≤8)) else false) (Ev.bindB hL (fun _=>?_) (fun _=>.done)) ?_
 ·simp only [qjR,qlw]
  exact Ev.now (by congr 1;rw [jh];simp;omega)
 ·unfold nameB
  cases allN (chB s) s.size<;>simp
def cutset:List UInt8:=[97,98,99,100,101,102,103,104,105,106,107,108,109,110,111,112,113,114,115,116,117,118,119,120,121,122,48,49,50,51,52,53,54,55,56,57]
theorem qnA (b:UInt8):cutset.contains b=(letB b.toNat || digB b.toNat):=by
 have h0:(List.range 256).all (fun m=>cutset.contains (UInt8.ofNat m)==(letB (UInt8.ofNat m).toNat || digB (UInt8.ofNat m).toNat))=true:=by kernel_rfl
 have h:=List.all_eq_true.1 h0 b.toNat (List.mem_range.2 b.toNat_lt)
 rw [beq_iff_eq] at h
 simpa using h
def letters:List UInt8:=[97,98,99,100,101,102,103,104,105,106,107,108,109,110,111,112,113,114,115,116,117,118,119,120,121,122]
theorem qqK (m:Nat) (hm:m<256):decide ((Lib.indexByte letters m.toUInt8) ≥ 0)=letB m:=by
 have h0:(List.range 256).all (fun m=>decide ((Lib.indexByte letters m.toUInt8) ≥ 0)==letB m)=true:=by kernel_rfl
 have h:=List.all_eq_true.1 h0 m (List.mem_range.2 hm)
 rwa [beq_iff_eq] at h
theorem qn5 {α:Type} {p:α→Bool} {l:List α}:l.dropWhile p=[]↔∀ x,x ∈ l→p x=true:=by
 induction l with
 | nil=>simp
 | cons y l ih =>
  rw [List.dropWhile_cons]
  by_cases h:p y=true
  ·rw [if_pos h,ih];simp [h]
  ·rw [if_neg h];simp [h]
theorem qn0 {α:Type} {p:α→Bool} {l:List α} (h:∀ x,x ∈ l.dropWhile p→p x=true):∀ x,x ∈ l→p x=true:=by
 induction l with
 | nil=>simp
 | cons y l ih =>
  rw [List.dropWhile_cons] at h
  by_cases hy:p y=true
  ·rw [if_pos hy] at h
   intro x hx
   rcases List.mem_cons.1 hx with rfl|hx
   ·exact hy
   ·exact ih h x hx
  ·rw [if_neg hy] at h
   exact h
theorem qs2 {l cs:List UInt8}:Lib.trimS l cs=[]↔∀ x,x ∈ l→cs.contains x=true:=by
 unfold Lib.trimS Lib.trimRightS Lib.trimLeftS
 rw [qn5]
 constructor
 ·intro h x hx
  exact qn0 (p:=(cs.contains ·)) (l:=l.reverse) (fun y hy=>h y (List.mem_reverse.2 hy)) x (List.mem_reverse.2 hx)
 ·intro h x hx
  exact h x (List.mem_reverse.1 ((List.dropWhile_suffix _).subset (List.mem_reverse.1 hx)))
theorem qfH {a b:ByteArray}:(a.toList==b.toList)=decide (a=b):=by
 rw [jh,beq_iff_eq,decide_eq_true_iff]
 constructor
 ·intro h
  exact ByteArray.ext (by have:=congrArg List.toArray h;simpa [ByteArray.toList_eq] using this)
 ·rintro rfl;rfl
end Go.Fw


namespace Go.Fw
open Go
set_option maxRecDepth 100000
theorem qtZ {s:ByteArray} {j:Nat} (h:j<s.data.toList.length):bt s j=(s.data.toList[j]).toNat:=by
 unfold bt;rw [jJ,ji h];rfl
theorem quA {s:ByteArray} {j:Nat}:bt s j<256:=UInt8.toNat_lt _
theorem qot {n:Nat} {s:ByteArray} (h:okS s):qhs n s=some (nameB s):=by
 unfold okS at h
 have hl:s.data.toList.length=s.size:=by simp
 simp only [qhs,qcm,jd]
 cases hI:inI (s.size:Int) 1 8 with
 | false =>
  have hs:(decide (1≤s.size)&&decide (s.size≤8))=false:=by rw [qrp] at hI;rw [Bool.and_eq_false_iff,decide_eq_false_iff_not,decide_eq_false_iff_not];omega
  simp [nameB,hs]
 | true =>
  have hs:1≤s.size∧s.size≤8:=by rw [qbO] at hI;omega
  have hT:qgt n s (⟨#[97,98,99,100,101,102,103,104,105,106,107,108,109,110,111,112,113,114,115,116,117,118,119,120,121,122,48,49,50,51,52,53,54,55,56,57]⟩:ByteArray)=some ⟨(Lib.trimS s.data.toList cutset).toArray⟩:=by
   unfold qgt
   rw [if_pos ⟨by omega,by decide,by decide⟩]
   rfl
  rw [hT]
  simp only [cond_true,jd]
  have hE:(((⟨(Lib.trimS s.data.toList cutset).toArray⟩:ByteArray).toList==(⟨#[]⟩:ByteArray).toList))=allN (fun j=>letB (bt s j) || digB (bt s j)) s.size:=by
   rw [qfH,jh,decide_eq_true_iff,qap]
   have:((⟨(Lib.trimS s.data.toList cutset).toArray⟩:ByteArray)=⟨#[]⟩)↔Lib.trimS s.data.toList cutset=[]:=by
    constructor
    ·intro he
     have:=congrArg (fun x:ByteArray=>x.data.toList) he
     simpa using this
    ·intro he;rw [he]
   rw [this,qs2]
   constructor
   ·intro hx j hj
    have hj':j<s.data.toList.length:=by omega
    have:=hx _ (js hj')
    rw [qnA,←qtZ hj'] at this
    exact this
   ·intro hx x hm
    obtain ⟨j,hj,rfl⟩:=jG hm
    have:=hx j (by omega)
    rw [qnA,←qtZ hj]
    exact this
  rw [hE]
  have h0:atS s 0=some (bt s 0:Int):=qr7 (j:=0) (by omega)
  have hI2:decide (Lib.indexByte letters (bt s 0:Int).toNat.toUInt8 ≥ 0)=letB (bt s 0):=by
   rw [jy];exact qqK _ quA
  have hF:∀ b:Bool,(bif b then (atS s 0).bind fun y1=>(qeW n (⟨#[97,98,99,100,101,102,103,104,105,106,107,108,109,110,111,112,113,114,115,116,117,118,119,120,121,122]⟩:ByteArray) (⟨y1⟩:IntK .u8)).bind fun r3=>some (decide (r3 ≥ 0)) else some false)=some (b&&letB (bt s 0)):=by
   intro b
   cases b with
   | false=>rfl
   | true =>
    rw [h0]
    simp only [cond_true,jd,qeW,jA]
    exact congrArg some hI2
  rw [hF]
  congr 1
  have hs':(decide (1≤s.size)&&decide (s.size≤8))=true:=by simp [hs]
  unfold nameB
  rw [hs',jA,jh,jf,qap,qap]
  simp only [chB,Bool.or_eq_true,jf,decide_eq_true_eq]
  constructor
  ·rintro ⟨h1,h2⟩ j hj
   rcases Nat.eq_zero_or_pos j with rfl|hp
   ·exact .inl h2
   ·exact (h1 j hj).imp id (fun h=>⟨h,hp⟩)
  ·intro h1
   refine ⟨fun j hj=>(h1 j hj).imp id (fun h=>h.1),?_⟩
   rcases h1 0 (by omega) with h2|h2
   ·exact h2
   ·omega
def strAt (xs:List ByteArray) (j:Nat):ByteArray:=xs.getD j ByteArray.empty
theorem qlu {xs:List ByteArray} {j:Nat} (h:j<xs.length):strAt xs j=xs[j]:=by simp [strAt,h]
theorem qmS {xs:List ByteArray} {j:Nat} (h:j<xs.length):idx xs (j:Int)=some (strAt xs j):=by rw [qf6 h,qlu h]
def neB (xs:List ByteArray) (j i:Nat):Bool:=!decide (strAt xs i=strAt xs j)
def namesB (xs:List ByteArray):Bool:=allN (fun j=>nameB (strAt xs j)&&allN (neB xs j) j) xs.length
theorem qj9 {xs:List ByteArray} (h:okL okS xs):Ev (fun n=>qeQ n xs) (namesB xs):=by
 have hl:=h.len
 have hL2:∀ j,j<xs.length→Ev (fun n=>qda xs (j:Int) n 0) (bif allN (neB xs j) j then .nxt (j:Int) else .ret false):=by
  intro j hj
  refine qde ?_ (fun i hi X hX=>Ev.succ ?_)
  ·exact Ev.succ (by simp only [qda,qj (je _),cond_false];exact .done)
  ·simp only [qda,qi hi,cond_true,qmS (show i<xs.length by omega),qmS hj,jd,qfH,wS i]
   unfold neB
   cases decide (strAt xs i=strAt xs j)
   ·exact hX
   ·exact .done
 have hL1:Ev (fun n=>qdd xs n 0) (bif namesB xs then .nxt (xs.length:Int) else .ret false):=by
  refine qde ?_ (fun j hj X hX=>Ev.succ ?_)
  ·exact Ev.succ (by simp only [qdd,qj (je _),cond_false];exact .done)
  ·simp only [qdd,qi hj,cond_true,qmS hj,jd,wS j]
   refine Ev.bind (qk3 (by rw [qlu hj];exact h.at hj)) ?_
   cases nameB (strAt xs j)
   ·exact .done
   ·refine Ev.ff rfl (Ev.bind (hL2 j hj) ?_)
    cases allN (neB xs j) j
    ·exact .done
    ·exact hX
 unfold qeQ
 refine Ev.bind hL1 ?_
 cases namesB xs<;>exact .done
theorem qpn {xs:List ByteArray} {v:ByteArray} (hl:xs.length≤1048576):Ev (fun n=>qdV n xs v) (ixL (fun x=>decide (v=x)) xs) :=
 qfG (fin:=(xs.length:Int)) (Lf:=qbi xs v) (pf:=fun _ x=>some (decide (v=x))) (fun _ _=>.done)
  (fun n=>by simp only [qbi,qj (je _),cond_false])
  (fun n j x hx=>by
   have hj:=(List.getElem?_eq_some_iff.1 hx).1
   simp only [qbi,qi hj,cond_true,qz hx,jd,qfH,wS j])
  (fun n=>by unfold qdV;congr 1;funext o;cases o<;>rfl)
theorem qnb {xs:List ByteArray} {v:ByteArray} (hl:xs.length≤1048576):Ev (fun n=>qcV n xs v) (xs.any fun x=>decide (v=x)):=by
 unfold qcV
 exact Ev.bind (qpn hl) (Ev.now (by rw [qk5]))
theorem qhh {xs:List ByteArray} (h:okL okS xs):Ev (fun n=>qcW n xs) (namesB xs):=by
 have hl:=h.len
 have hL1:Ev (fun n=>qc5 xs n 0) (bif namesB xs then .nxt (xs.length:Int) else .ret false):=by
  refine qde ?_ (fun j hj X hX=>Ev.succ ?_)
  ·exact Ev.succ (by simp only [qc5,qj (je _),cond_false];exact .done)
  ·have hs:subS xs 0 (j:Int)=some (xs.take j):=by
    unfold subS
    rw [if_pos ⟨by omega,by omega,by omega⟩]
    simp
   simp only [qc5,qi hj,cond_true,qmS hj,jd,hs,qot (show okS (strAt xs j) by rw [qlu hj];exact h.at hj),wS j]
   cases nameB (strAt xs j)
   ·exact .done
   ·refine Ev.ff rfl (Ev.bind (qnb (by simp;omega)) ?_)
    have:((xs.take j).any fun x=>decide (strAt xs j=x)) = !allN (neB xs j) j:=by
     rw [qpN (d:=ByteArray.empty)]
     congr 1
     rw [List.length_take,Nat.min_eq_left (by omega)]
     refine qf2 (fun i hi=>?_)
     unfold neB strAt
     congr 1
     have:(xs.take j).getD i ByteArray.empty=xs.getD i ByteArray.empty:=by simp [jJ,hi]
     rw [this]
     exact decide_eq_decide.2 eq_comm
    rw [this]
    cases allN (neB xs j) j
    ·exact .done
    ·exact hX
 unfold qcW
 refine Ev.bind hL1 ?_
 cases namesB xs<;>exact .done
end Go.Fw


namespace Go.Fw
open Go
set_option maxRecDepth 100000
theorem qnN {n:Nat} {x lo hi:Int}:qfw n x lo hi=some (!inI x lo hi):=by simp only [qfw,qcm,jd]
theorem qfq {xs:List Int} {lo hi:Int} (hl:xs.length≤1048576):Ev (fun n=>qbK n xs lo hi) (xs.all fun x=>inI x lo hi):=by
 have h1:Ev (fun n=>qaq n xs lo hi) (ixL (fun x=>!inI x lo hi) xs) :=
  qfG (fin:=(xs.length:Int)) (Lf:=qL xs lo hi) (pf:=fun _ x=>some (!inI x lo hi)) (fun _ _=>.done)
   (fun n=>by simp only [qL,qj (je _),cond_false])
   (fun n j x hx=>by
    have hj:=(List.getElem?_eq_some_iff.1 hx).1
    simp only [qL,qi hj,cond_true,qz hx,jd,qnN,wS j])
   (fun n=>by unfold qaq;congr 1;funext o;cases o<;>rfl)
 unfold qbK qaZ
 refine Ev.bind (Ev.bind h1 (Ev.now rfl)) (Ev.now ?_)
 rw [qk5,qmN]
def stepB (xs:List Int) (j:Nat):Bool:=decide (j=0) || decide (at0 xs (j-1)<at0 xs j)
def incB (xs:List Int):Bool:=allN (stepB xs) xs.length
theorem qmn {xs:List Int} (hl:xs.length≤1048576):Ev (fun n=>qeY n xs) (incB xs):=by
 have hL:Ev (fun n=>qaU xs n 1) (bif incB xs then .nxt (max 1 xs.length:Int) else .ret false):=by
  by_cases h0:xs.length=0
  ·have hb:incB xs=true:=by unfold incB;rw [h0];rfl
   rw [hb]
   refine Ev.succ ?_
   have:decide ((1:Int)<(xs.length:Int))=false:=by rw [h0];decide
   simp only [qaU,this,cond_false]
   exact Ev.now (by rw [h0];rfl)
  ·have:=qrb (Lf:=qaU xs) (len:=xs.length) (i0:=1) (f:=stepB xs) (bad:=false) (fin:=.nxt (max 1 xs.length:Int)) (by omega)
    (Ev.succ (by
     simp only [qaU,qj (je _),cond_false]
     exact Ev.now (by congr 2;omega)))
    (fun j h1 hj X hX=>Ev.succ (by
     simp only [qaU,qi hj,cond_true,wS j,show (j:Int)-1=((j-1:Nat):Int) by omega,qZ (show -9223372036854775808≤((j-1:Nat):Int) by omega) (by omega),qbN (show j-1<xs.length by omega),qbN hj,jd]
     unfold stepB
     by_cases hc:at0 xs (j-1)<at0 xs j
     ·have e1:decide (at0 xs (j-1) ≥ at0 xs j)=false:=by simp;omega
      rw [e1];simp only [hc,decide_true,Bool.or_true,cond_true,cond_false];exact hX
     ·have e1:decide (at0 xs (j-1) ≥ at0 xs j)=true:=by simp;omega
      have e2:decide (j=0)=false:=by simp;omega
      rw [e1,e2];simp only [hc,decide_false,Bool.or_self,cond_true,cond_false];exact .done))
   have e:allN (fun j=>stepB xs (1+j)) (xs.length-1)=incB xs:=by
    unfold incB
    rw [jh,qap,qap]
    constructor
    ·intro h j hj
     cases j with
     | zero=>rfl
     | succ j=>have:=h j (by omega);rwa [Nat.add_comm] at this
    ·intro h j hj
     exact h (1+j) (by omega)
   rw [e] at this
   exact this
 unfold qeY
 refine Ev.bind hL ?_
 cases incB xs<;>exact .done
def lenB {α:Type} (xs:List α) (lo hi:Nat):Bool:=decide (lo≤xs.length)&&decide (xs.length≤hi)
theorem qo6 {α:Type} {xs:List α} {lo hi:Nat}:inI (xs.length:Int) (lo:Int) (hi:Int)=lenB xs lo hi:=by
 unfold inI lenB;rw [jh];simp
def axisB (xs:List Int):Bool:=lenB xs 1 4&&((xs.all fun x=>inI x 0 100000)&&incB xs)
theorem qoo {xs:List Int} (hl:xs.length≤1048576):Ev (fun n=>qht n xs) (axisB xs):=by
 simp only [qht,qaR,jd,qcm,show inI (xs.length:Int) 1 4=lenB xs 1 4 from qo6 (lo:=1) (hi:=4)]
 unfold axisB
 cases lenB xs 1 4
 ·exact .done
 ·refine Ev.tt rfl (Ev.bind (qfq hl) ?_)
  cases (xs.all fun x=>inI x 0 100000)
  ·exact .done
  ·exact Ev.tt rfl (Ev.bind (qmn hl) .done)
theorem qnh {xs:List Int} (hl:xs.length≤1048576):Ev (fun n=>qgB n xs) (axisB xs):=by
 have hL:Ev (fun n=>qcy xs n 0) (bif allN (fun j=>inI (at0 xs j) 0 100000&&stepB xs j) xs.length then .nxt (xs.length:Int) else .ret false):=by
  refine qde ?_ (fun j hj X hX=>Ev.succ ?_)
  ·exact Ev.succ (by simp only [qcy,qj (je _),cond_false];exact .done)
  ·simp only [qcy,qi hj,cond_true,qbN hj,jd,qef,wS j]
   cases inI (at0 xs j) 0 100000
   ·exact .done
   ·simp only [Bool.not_true,cond_false,jA]
    unfold stepB
    by_cases h0:j=0
    ·subst h0
     exact Ev.ff (by decide) hX
    ·simp only [show (j:Int)-1=((j-1:Nat):Int) by omega,qZ (show -9223372036854775808≤((j-1:Nat):Int) by omega) (by omega),qbN (show j-1<xs.length by omega),jd]
     have e2:decide (j=0)=false:=by simp;omega
     have e3:decide ((j:Int) > 0)=true:=by simp;omega
     rw [e2,e3]
     simp only [cond_true,Bool.false_or]
     by_cases hc:at0 xs (j-1)<at0 xs j
     ·have e1:decide (at0 xs (j-1) ≥ at0 xs j)=false:=by simp;omega
      rw [e1];simp only [hc,decide_true,cond_true,cond_false];exact hX
     ·have e1:decide (at0 xs (j-1) ≥ at0 xs j)=true:=by simp;omega
      rw [e1];simp only [hc,decide_false,cond_true,cond_false];exact .done
 have e:axisB xs=(allN (fun j=>inI (at0 xs j) 0 100000&&stepB xs j) xs.length&&lenB xs 1 4):=by
  unfold axisB incB
  rw [qke,qhq (d:=0),Bool.and_comm]
  rfl
 rw [e]
 unfold qgB
 refine Ev.bind hL ?_
 cases allN (fun j=>inI (at0 xs j) 0 100000&&stepB xs j) xs.length
 ·exact .done
 ·simp only [cond_true,qjR,qlw,jA]
  exact Ev.now (by congr 1;unfold lenB;rw [jh];simp;omega)
def tableB (t:qq):Bool:=axisB t.Be&&(axisB t.Bf&&(decide (t.Av.length=t.Be.length*t.Bf.length)&&(t.Av.all fun x=>inI x (-1000000) 1000000)))
theorem qre {a b:Nat} (ha:a≤1048576) (hb:b≤1048576):W64 ((a:Int)*(b:Int))=((a*b:Nat):Int):=by
 have h:a*b≤1048576*1048576:=Nat.mul_le_mul ha hb
 have e:(a:Int)*(b:Int)=((a*b:Nat):Int):=by simp
 rw [e]
 exact qZ (by omega) (by omega)
theorem qqQ {t:qq} (h:qgr t):Ev (fun n=>qhQ n t) (tableB t):=by
 unfold qhQ tableB
 refine Ev.bind (qoo h.Be.len) ?_
 cases axisB t.Be
 ·exact .done
 ·refine Ev.tt rfl (Ev.bind (qoo h.Bf.len) ?_)
  cases axisB t.Bf
  ·exact .done
  ·rw [qre h.Be.len h.Bf.len]
   have e:(((t.Av.length:Nat):Int)==((t.Be.length*t.Bf.length:Nat):Int))=decide (t.Av.length=t.Be.length*t.Bf.length):=by rw [jh];simp;omega
   rw [e]
   cases decide (t.Av.length=t.Be.length*t.Bf.length)
   ·exact .done
   ·exact Ev.tt rfl (Ev.tt rfl (Ev.bind (qfq h.Av.len) .done))
theorem qqb {t:qq} (h:qgr t):Ev (fun n=>qhP n t) (tableB t):=by
 have hl:=h.Av.len
 have hL:Ev (fun n=>qdr t n 0) (bif (t.Av.all fun x=>inI x (-1000000) 1000000) then .nxt (t.Av.length:Int) else .ret false) :=
  qk9 (fun n=>by simp only [qdr,qj (je _),cond_false]) (fun j hj X hX=>by
   simp only [qdr,qi hj,cond_true,qf6 hj,jd,qef,wS j]
   cases inI t.Av[j] (-1000000) 1000000
   ·exact .done
   ·exact hX)
 unfold qhP tableB
 refine Ev.bind (b:=!(axisB t.Be&&(axisB t.Bf&&decide (t.Av.length=t.Be.length*t.Bf.length)))) ?_ ?_
 ·refine Ev.bind (qnh h.Be.len) ?_
  cases axisB t.Be
  ·exact .done
  ·refine Ev.ff rfl (Ev.bind (qnh h.Bf.len) ?_)
   cases axisB t.Bf
   ·exact .done
   ·refine Ev.ff rfl (Ev.now ?_)
    rw [qre h.Be.len h.Bf.len]
    congr 1
    rw [jh];simp;omega
 ·cases axisB t.Be
  ·exact .done
  ·cases axisB t.Bf
   ·exact .done
   ·cases decide (t.Av.length=t.Be.length*t.Bf.length)
    ·exact .done
    ·refine Ev.ff rfl (Ev.bind hL ?_)
     cases (t.Av.all fun x=>inI x (-1000000) 1000000)<;>exact .done
end Go.Fw


namespace Go.Fw
open Go
set_option maxRecDepth 100000
instance:Inhabited qO:=⟨⟨ByteArray.empty,0,0,false⟩⟩
instance:Inhabited qq:=⟨⟨[],[],[]⟩⟩
instance:Inhabited qF:=⟨⟨0,0,0,0,[],[]⟩⟩
instance:Inhabited qp:=⟨⟨ByteArray.empty,0,[],[],[],0,0⟩⟩
instance:Inhabited qd:=⟨⟨ByteArray.empty,0,[]⟩⟩
instance:Inhabited qB:=⟨⟨ByteArray.empty,0,0⟩⟩
instance:Inhabited qw:=⟨⟨[],[],[],[]⟩⟩
theorem lastE {j m:Nat} (h:j<m) (hm:m≤1048576):((j:Int)==W64 ((m:Int)-1))=decide (j+1=m):=by
 rcases qtc h with h|h
 ·exact h
 ·omega
theorem qh4 {α:Type} [Inhabited α] {xs:List α} {g:α→ByteArray} {j:Nat} (h:j<xs.length):strAt (xs.map g) j=g (gt xs j):=by
 rw [qlu (by simpa using h),qjC h];simp
theorem qkj {α:Type} {xs:List α} {g:α→ByteArray} {ok:α→Prop} (h:okL ok xs) (hg:∀ x,ok x→okS (g x)):okL okS (xs.map g) :=
 ⟨by rw [jE];exact h.1,fun y hy=>by
  obtain ⟨x,hx,rfl⟩:=List.mem_map.1 hy
  exact hg x (h.2 x hx)⟩
theorem qi3 {α β:Type} {xs:List α} {g:α→β} {j:Nat} (h:j<xs.length) (hl:xs.length≤1048576) {y:β}:appS ((xs.take j).map g) [y]=some ((xs.take j).map g++[y]) :=
 qdT (by simp;omega)
def pinB (ps:List qO) (j:Nat):Bool :=
 bif decide (j+1=ps.length) then ((gt ps j).Bm==2)&&(((gt ps j).Bk==0)&&!(gt ps j).Bh) else ((gt ps j).Bm==1)&&inI (gt ps j).Bk 0 500
def pinsB (ps:List qO):Bool:=allN (pinB ps) ps.length&&(lenB ps 2 5&&namesB (ps.map qO.Ar))
def clkN (ps:List qO) (j:Nat):Nat:=cntP (fun i=>(gt ps i).Bh) j
theorem qqD {ps:List qO} (h:okL qkb ps):Ev (fun n=>qhD n ps) (pinsB ps):=by
 have hl:=h.len
 have hL:Ev (fun n=>qbW ps n ([]:List ByteArray) 0) (bif allN (pinB ps) ps.length then .nxt (ps.map qO.Ar,(ps.length:Int)) else .ret false):=by
  refine loopN (Lf:=qbW ps) (S:=fun j=>(ps.take j).map qO.Ar) (pinB ps) (fun n=>?_) (fun j hj hp X hX=>?_)
  ·simp only [qbW,qj (je _),cond_false,jO]
  ·simp only [qbW,qi hj,cond_true,qN hj,jd,qi3 hj hl,qen (g:=qO.Ar) hj,lastE hj hl,bne,qbc,qcm,wS j]
   generalize hc:pinB ps j=c at hX ⊢
   unfold pinB at hc
   cases hd:decide (j+1=ps.length)
   ·rw [hd] at hc
    simp only [cond_false] at hc ⊢
    subst hc
    exact Ev.okP (fun h1=>Ev.okP1 (fun h2=>hX (by rw [h1,h2];rfl)))
   ·rw [hd] at hc
    simp only [cond_true] at hc ⊢
    subst hc
    refine Ev.okP (fun h1=>Ev.okP (fun h2=>Ev.chkP1 (fun h3=>hX (by rw [h1,h2,h3];rfl))))
 unfold qhD pinsB
 refine Ev.bind hL ?_
 cases allN (pinB ps) ps.length
 ·exact .done
 ·simp only [cond_true,qbD,qcm,jd,show inI (ps.length:Int) 2 5=lenB ps 2 5 from qo6 (lo:=2) (hi:=5),jA]
  exact Ev.andP (fun _=>Ev.last (qhh (qkj h (fun x hx=>hx.Ar))))
def pinS (ps:List qO) (j:Nat):Bool:=allN (neB (ps.map qO.Ar) j) j&&((nameB (gt ps j).Ar&&inI (gt ps j).Bk 0 500)&&(bif decide (j+1=ps.length) then ((gt ps j).Bm==2)&&(((gt ps j).Bk==0)&&!(gt ps j).Bh) else ((gt ps j).Bm==1)))
theorem qtv {ps:List qO}:(lenB ps 2 5&&allN (pinS ps) ps.length)=pinsB ps:=by
 have e:namesB (ps.map qO.Ar)=allN (fun j=>nameB (gt ps j).Ar&&allN (neB (ps.map qO.Ar) j) j) ps.length:=by
  unfold namesB
  rw [jE]
  exact qf2 (fun j hj=>by rw [qh4 hj])
 unfold pinsB
 rw [e,←Bool.and_assoc,Bool.and_comm (allN (pinB ps) ps.length),Bool.and_assoc,←qke]
 congr 1
 refine qf2 (fun j hj=>?_)
 unfold pinS pinB
 cases hd:decide (j+1=ps.length)
 ·simp only [cond_false]
  cases allN (neB (ps.map qO.Ar) j) j<;>cases nameB (gt ps j).Ar<;>cases inI (gt ps j).Bk 0 500<;>cases ((gt ps j).Bm==1)<;>rfl
 ·simp only [cond_true]
  cases hcap:((gt ps j).Bk==0)
  ·simp
  ·have:inI (gt ps j).Bk 0 500=true:=by rw [beq_iff_eq] at hcap;rw [hcap];rfl
   rw [this]
   cases allN (neB (ps.map qO.Ar) j) j<;>cases nameB (gt ps j).Ar<;>cases ((gt ps j).Bm==2)<;>cases (gt ps j).Bh<;>rfl
theorem qqE {c:qp} (h:okL qkb c.Am):Ev (fun n=>qhJ n c) (bif pinsB c.Am then (((clkN c.Am c.Am.length:Nat):Int),true) else (0,false)):=by
 have hl:=h.len
 have hL2:∀ j,j<c.Am.length→Ev (fun n=>qdx c (j:Int) (gt c.Am j) n 0) (bif allN (neB (c.Am.map qO.Ar) j) j then .nxt (j:Int) else .ret (0,false)):=by
  intro j hj
  refine qde ?_ (fun i hi X hX=>Ev.succ ?_)
  ·exact Ev.succ (by simp only [qdx,qj (je _),cond_false];exact .done)
  ·simp only [qdx,qi hi,cond_true,qN (show i<c.Am.length by omega),jd,qfH,wS i]
   unfold neB
   rw [qh4 (g:=qO.Ar) (show i<c.Am.length by omega),qh4 (g:=qO.Ar) hj]
   exact Ev.chkP1 (fun _=>hX)
 have hL1:Ev (fun n=>qbX c n 0 0) (bif allN (pinS c.Am) c.Am.length then .nxt (((clkN c.Am c.Am.length:Nat):Int),(c.Am.length:Int)) else .ret (0,false)):=by
  refine loopN (Lf:=qbX c) (S:=fun j=>((clkN c.Am j:Nat):Int)) (pinS c.Am) (fun n=>?_) (fun j hj hp X hX=>?_)
  ·simp only [qbX,qj (je _),cond_false]
  ·have hn:clkN c.Am j≤j:=qe1
   have ejl:((j:Int)==W64 ((c.Am.length:Int)-1))=decide (j+1=c.Am.length):=lastE hj hl
   have elt:decide ((j:Int)<W64 ((c.Am.length:Int)-1)) = !decide (j+1=c.Am.length):=by
    rw [qZ (by omega) (by omega),jh];simp;omega
   simp only [qbX,qi hj,cond_true,qN hj,jd,wS j,qcJ (show clkN c.Am j<9223372036854775807 by omega),ejl,elt,qef]
   unfold pinS
   refine Ev.bind (hL2 j hj) ?_
   cases ha:allN (neB (c.Am.map qO.Ar) j) j
   ·exact .done
   ·simp only [cond_true,jA]
    refine Ev.chkT ?_ (fun h1=>?_)
    ·exact Ev.or (qk3 (qjT h hj).Ar) (fun _=>.done)
    ·refine Ev.chkT1 ?_ (fun h2=>?_)
     ·cases decide (j+1=c.Am.length)
      ·exact .done
      ·simp only [cond_true,Bool.not_true,cond_false,bne,qbc]
       cases ((gt c.Am j).Bm==2)<;>cases ((gt c.Am j).Bk==0)<;>cases (gt c.Am j).Bh<;>exact .done
     ·have hX:=hX (by unfold pinS;rw [ha,h1,h2];rfl)
      have hck:clkN c.Am (j+1)=clkN c.Am j+(bif (gt c.Am j).Bh then 1 else 0):=rfl
      rw [hck] at hX
      cases hc:(gt c.Am j).Bh
      ·rw [hc] at hX;exact Ev.ff rfl hX
      ·rw [hc] at hX;exact Ev.tt rfl hX
 rw [←qtv]
 unfold qhJ
 refine Ev.guard ?_ (fun h1=>?_)
 ·unfold lenB
  have e1:decide ((c.Am.length:Int)<2) = !decide (2≤c.Am.length):=by rw [jh];simp;omega
  have e2:decide ((c.Am.length:Int) > 5) = !decide (c.Am.length≤5):=by rw [jh];simp;omega
  rw [e1,e2]
  cases decide (2≤c.Am.length)<;>cases decide (c.Am.length≤5)<;>exact .done
 ·refine Ev.bind hL1 ?_
  cases allN (pinS c.Am) c.Am.length<;>exact .done
def mnL (xs:List Int):Int:=(xs.drop 1).foldl (fun m y=>if y<m then y else m) (at0 xs 0)
def mxL (xs:List Int):Int:=(xs.drop 1).foldl (fun m y=>if y > m then y else m) (at0 xs 0)
theorem qm8 {t:qq} (h:tableB t=true):1≤t.Av.length:=by
 unfold tableB axisB lenB at h
 simp only [jf,decide_eq_true_eq] at h
 obtain ⟨⟨⟨h1,_⟩,_⟩,⟨⟨h2,_⟩,_⟩,h3,_⟩:=h
 rw [h3]
 exact Nat.mul_pos h1 h2
theorem qtE {xs:List Int} (h1:1≤xs.length) (hl:xs.length≤1048576):Ev (fun n=>qfr n xs) (mnL xs):=by
 have hL:=(qom (Lf:=fun n t j=>qbT xs n t j) (xs:=xs) (step:=fun (m y:Int)=>if y<m then y else m) (fin:=fun t=>(t,(xs.length:Int))) 1 (at0 xs 0) (fun _ _=>True) h1 trivial (fun _ _ _ _=>trivial)
  (fun n t=>by simp only [qbT,qj (je _),cond_false])
  (fun j t hj _ X hX=>by simpa only [qbT,qi hj,cond_true,qf6 hj,jd,wS j] using hX)).1
 unfold qfr
 rw [show decide ((xs.length:Int)<1)=false by simp;omega,show idx xs (0:Int)=some (at0 xs 0) from qbN (j:=0) (by omega)]
 simp only [cond_false,jd]
 exact Ev.bind hL .done
theorem qqT {t:qq} (h:qgr t):Ev (fun n=>qfx n t) (bif tableB t then (⟨mnL t.Av,mxL t.Av⟩,0) else (⟨0,0⟩,1)):=by
 unfold qfx
 refine Ev.chk1 (qqb h) (fun hb=>?_)
 have h1:=qm8 hb
 have hl:=h.Av.len
 have hL:=(qom (Lf:=fun n (t':Int × Int) j=>qbU t n t'.1 t'.2 j) (xs:=t.Av) (step:=fun (m:Int × Int) y=>(if y<m.1 then y else m.1,if y > m.2 then y else m.2)) (fin:=fun t'=>(t'.1,t'.2,(t.Av.length:Int))) 1 (at0 t.Av 0,at0 t.Av 0) (fun _ _=>True) h1 trivial (fun _ _ _ _=>trivial)
  (fun n t=>by simp only [qbU,qj (je _),cond_false])
  (fun j t hj _ X hX=>by simpa only [qbU,qi hj,cond_true,qf6 hj,jd,wS j] using hX)).1
 have hf:∀ (ys:List Int) (a b:Int),ys.foldl (fun (m:Int × Int) y=>(if y<m.1 then y else m.1,if y > m.2 then y else m.2)) (a,b)=(ys.foldl (fun m y=>if y<m then y else m) a,ys.foldl (fun m y=>if y > m then y else m) b):=by
  intro ys
  induction ys with
  | nil=>intro a b;rfl
  | cons y ys ih=>intro a b;simp only [List.foldl_cons,ih]
 rw [hf] at hL
 rw [show idx t.Av (0:Int)=some (at0 t.Av 0) from qbN (j:=0) (by omega)]
 simp only [jd]
 exact Ev.bind hL .done
def tabB (pos:Bool) (t:qq):Bool:=tableB t&&(!pos || decide (0≤mnL t.Av))
def tablesB (ts:List qq) (pos:Bool):Bool:=decide (ts.length=2)&&ts.all (tabB pos)
theorem qjo {ts:List qq} {pos:Bool} (h:okL qgr ts):Ev (fun n=>qeg n ts pos) (tablesB ts pos):=by
 have hl:=h.len
 have h1:Ev (fun n=>qad n ts pos) (ixL (fun x=>!tabB pos x) ts) :=
  qfG (fin:=(ts.length:Int)) (Lf:=qE ts pos) (pf:=fun n x=>qfs n x pos) (fun x hx=>by
    unfold qfs tabB
    refine Ev.or (qqQ (h.2 x hx)) (fun hb=>?_)
    cases pos
    ·exact .done
    ·refine Ev.tt rfl (Ev.bind (qtE (qm8 hb) (h.2 x hx).Av.len) (Ev.now ?_))
     congr 1
     rw [jh];simp)
   (fun n=>by simp only [qE,qj (je _),cond_false])
   (fun n j x hx=>by
    have hj:=(List.getElem?_eq_some_iff.1 hx).1
    simp only [qE,qi hj,cond_true,qz hx,jd,wS j])
   (fun n=>by unfold qad;congr 1;funext o;cases o<;>rfl)
 unfold qeg qaw tablesB
 rw [show ((ts.length:Int)==2)=decide (ts.length=2) by rw [jh];simp;omega]
 refine Ev.andP (fun _=>Ev.bind (Ev.bind h1 (Ev.now rfl)) (Ev.now ?_))
 rw [qk5,qmN]
theorem qgo {ts:List qq} {pos:Bool} (h:okL qgr ts):Ev (fun n=>qcj n ts pos) (tablesB ts pos):=by
 unfold qcj tablesB
 rw [show ((ts.length:Int) != 2) = !decide (ts.length=2) by rw [jh];simp;omega]
 simp only [qbc]
 refine Ev.andP (fun h2=>?_)
 have h2:ts.length=2:=by simpa using h2
 have hL:Ev (fun n=>qbP ts pos n 0) (bif allN (fun j=>tabB pos (gt ts j)) ts.length then .nxt (2:Int) else .ret false):=by
  refine qde (len:=ts.length) ?_ (fun j hj X hX=>Ev.succ ?_)
  ·rw [h2];exact Ev.succ (by simp only [qbP];exact .done)
  ·simp only [qbP,show decide ((j:Int)<2)=true by simp;omega,cond_true,qN hj,jd,wS j]
   refine Ev.bind (qqT (qjT h hj)) ?_
   unfold tabB
   cases tableB (gt ts j)
   ·exact .done
   ·simp only [cond_true,jA]
    refine Ev.ff rfl ?_
    cases pos
    ·exact hX
    ·refine Ev.tt rfl ?_
     rw [show decide (mnL (gt ts j).Av<0) = !decide (0≤mnL (gt ts j).Av) by rw [jh];simp]
     simp only [qbc]
     exact Ev.okP1 (fun _=>hX)
 rw [qhw]
 refine Ev.bind hL ?_
 cases allN (fun j=>tabB pos (gt ts j)) ts.length<;>exact .done
end Go.Fw


namespace Go.Fw
open Go
set_option maxRecDepth 100000
theorem qif {α:Type} [Inhabited α] {xs:List α} {x:Int} (h0:0≤x) (h1:x<xs.length):idx xs x=some (gt xs x.toNat):=by
  have:=qN (xs:=xs) (j:=x.toNat) (by omega)
  rwa [←qj4 h0] at this
theorem qon {q:Nat→Bool} {m n:Nat} (h:m≤n):cntP q m≤cntP q n:=by
  induction n with
  | zero =>
    obtain rfl:m=0:=by omega
    exact je _
  | succ n ih =>
    rcases Nat.lt_or_eq_of_le h with h|rfl
    · exact jQ (ih (by omega)) (Nat.le_add_right _ _)
    · exact je _
theorem qiG {m k:Nat}:decide ((m:Int)≤(k:Int))=decide (m≤k):=by rw [jh];simp
theorem qpQ {q:Nat→Bool} {n i j:Nat} (hi:i<j) (hj:j<n) (h1:q i=true) (h2:q j=true):2≤cntP q n:=by
  have e1:cntP q (i+1)=cntP q i+1:=by rw [cntP,h1];rfl
  have e2:cntP q (j+1)=cntP q j+1:=by rw [cntP,h2];rfl
  have m1:=qon (q:=q) (show i+1≤j by omega)
  have m2:=qon (q:=q) (show j+1≤n by omega)
  omega
theorem qpo {q:Nat→Bool} {n i j:Nat} (hn:cntP q n≤1) (hi:i<n) (hj:j<n) (h1:q i=true) (h2:q j=true):i=j:=by
  rcases Nat.lt_trichotomy i j with h|h|h
  · have:=qpQ h hj h1 h2;omega
  · exact h
  · have:=qpQ h hi h2 h1;omega
def clkIx (ps:List qO):Int:=ixL (fun p=>p.Bh) ps
def clkAt (ps:List qO) (x:Int):Bool:=(gt ps x.toNat).Bh
theorem qr9 {c:qp} (hl:c.Am.length≤1048576):Ev (fun n=>qfQ n c) (clkIx c.Am):=by
  unfold qfQ
  refine Ev.bind (b:=clkIx c.Am) ?_ .done
  exact qfG (fin:=(c.Am.length:Int)) (Lf:=qG c.Am) (pf:=fun n x=>qgm n x) (fun _ _=>.done)
    (fun n=>by simp only [qG,qj (je _),cond_false])
    (fun n j x hx=>by
      have hj:=(List.getElem?_eq_some_iff.1 hx).1
      simp only [qG,qi hj,cond_true,qz hx,jd,wS j])
    (fun n=>by unfold qaT;congr 1;funext o;cases o<;>rfl)
def arcI (ps:List qO) (a:qF):Bool :=
  bif (a.Ay==4) || (a.Ay==5) then
    (a.Bi==0)&&(((a.Az.length:Int)==0)&&(tablesB a.Bb false&&((a.Bd==clkIx ps)&&(decide (a.Bd ≥ 0)&&(inI a.To 0 (ps.length-2)&&!(a.To==a.Bd))))))
  else
    (tablesB a.Bb true&&(tablesB a.Az true&&((a.To==(ps.length:Int)-1)&&inI a.Bd 0 (ps.length-2)))) &&
      (bif a.Ay==1 then !clkAt ps a.Bd&&inI a.Bi 1 3 else (bif (a.Ay==2) || (a.Ay==3) then clkAt ps a.Bd&&(a.Bi==0) else false))
def arcS (ps:List qO) (a:qF):Bool :=
  (inI a.Bd 0 (ps.length-2)&&inI a.To 0 (ps.length-1)) &&
    (bif a.Ay==1 then !clkAt ps a.Bd&&((a.To==(ps.length:Int)-1)&&(inI a.Bi 1 3&&(tablesB a.Bb true&&tablesB a.Az true)))
     else (bif (a.Ay==2) || (a.Ay==3) then clkAt ps a.Bd&&((a.To==(ps.length:Int)-1)&&((a.Bi==0)&&(tablesB a.Bb true&&tablesB a.Az true)))
     else (bif (a.Ay==4) || (a.Ay==5) then clkAt ps a.Bd&&(decide (a.To<(ps.length:Int)-1)&&(!clkAt ps a.To&&((a.Bi==0)&&(tablesB a.Bb false&&((a.Az.length:Int)==0))))) else false)))
theorem qmc {c d:Bool}:(bif c then some c else some d)=some (c || d):=by cases c<;>rfl
theorem qpk {c d:Bool}:(bif c then some true else some d)=some (c || d):=by cases c<;>rfl
theorem qqt {n:Nat} {k:Int}:qhG n k=some ((k==4) || (k==5)):=by simp only [qhG,qpk]
theorem qsQ {c:qp} {a:qF} (h:okL qkb c.Am) (ha:qkL a) (hm:2≤c.Am.length):Ev (fun n=>qfX n c a) (arcI c.Am a):=by
  have hl:=h.len
  have e1:W64 ((c.Am.length:Int)-1)=(c.Am.length:Int)-1:=qdk (by omega)
  have e2:W64 ((c.Am.length:Int)-1-1)=(c.Am.length:Int)-2:=by rw [qZ (by omega) (by omega)];omega
  simp only [qfX,qqt,jd,qe0,qdc,qbD,e1,e2,qcm,qmc,bne]
  unfold arcI
  refine Ev.iff (fun _=>Ev.last ?_) (fun _=>Ev.guardB ?_ (fun hb=>?_))
  · exact Ev.andP fun _=>Ev.andP fun _=>Ev.and (qjo ha.Bb) fun _=>Ev.bind (qr9 hl) (Ev.andP fun _=>Ev.andP fun _=>Ev.andP fun _=>.done)
  · refine Ev.or (qjo ha.Bb) fun _=>Ev.or (qjo ha.Az) fun _=>?_
    simp only [qbc]
    exact Ev.orBP fun _=>.done
  · have hf:0≤a.Bd∧a.Bd≤(c.Am.length:Int)-2:=by
      simp only [jf,qbO] at hb
      exact hb.2.2.2
    simp only [qif hf.1 (show a.Bd<(c.Am.length:Int) by omega),jd]
    exact Ev.iff (fun _=>Ev.andP fun _=>.done) (fun _=>Ev.iff (fun _=>Ev.andP fun _=>.done) (fun _=>.done))
theorem qrT {c:qp} {a:qF} (h:okL qkb c.Am) (ha:qkL a) (hm:2≤c.Am.length):Ev (fun n=>qiS n c a) (arcS c.Am a):=by
  have hl:=h.len
  have e1:W64 ((c.Am.length:Int)-1)=(c.Am.length:Int)-1:=qdk (by omega)
  have e2:W64 ((c.Am.length:Int)-1-1)=(c.Am.length:Int)-2:=by rw [qZ (by omega) (by omega)];omega
  simp only [qiS,jd,e1,e2,qef,qmc]
  unfold arcS
  refine Ev.guardB ?_ (fun hb=>?_)
  · simp only [qbc]
    exact Ev.orBP fun _=>.done
  · have hf:(0≤a.Bd∧a.Bd≤(c.Am.length:Int)-2)∧(0≤a.To∧a.To≤(c.Am.length:Int)-1):=by
      simp only [jf,qbO] at hb
      exact hb
    simp only [qif hf.1.1 (show a.Bd<(c.Am.length:Int) by omega),qif hf.2.1 (show a.To<(c.Am.length:Int) by omega),jd]
    refine Ev.iff (fun _=>?_) (fun _=>Ev.iff (fun _=>?_) (fun _=>Ev.iff (fun _=>?_) (fun _=>.done)))
    · exact Ev.andP fun _=>Ev.andP fun _=>Ev.andP fun _=>Ev.and (qgo ha.Bb) fun _=>Ev.last (qgo ha.Az)
    · exact Ev.andP fun _=>Ev.andP fun _=>Ev.andP fun _=>Ev.and (qgo ha.Bb) fun _=>Ev.last (qgo ha.Az)
    · exact Ev.andP fun _=>Ev.andP fun _=>Ev.andP fun _=>Ev.andP fun _=>Ev.and (qgo ha.Bb) fun _=>.done
theorem qlQ {ps:List qO} (h1:clkN ps ps.length≤1) {x:Int} (hx:0≤x):clkIx ps=x↔x<ps.length∧clkAt ps x=true:=by
  unfold clkIx ixL
  cases hf:ps.findIdx? (fun p=>p.Bh) with
  | some j =>
    obtain ⟨hj,hp,_⟩:=List.findIdx?_eq_some_iff_getElem.1 hf
    have hpj:(gt ps j).Bh=true:=by rw [qjC hj];exact hp
    constructor
    · intro e
      have e:(j:Int)=x:=e
      subst e
      exact ⟨by omega,by unfold clkAt;rw [jy];exact hpj⟩
    · rintro ⟨hl,hc⟩
      have:=qpo h1 hj (show x.toNat<ps.length by omega) hpj hc
      show (j:Int)=x
      omega
  | none =>
    have hn:=List.findIdx?_eq_none_iff.1 hf
    constructor
    · intro e
      have e:(-1:Int)=x:=e
      omega
    · rintro ⟨hl,hc⟩
      have hxl:x.toNat<ps.length:=by omega
      unfold clkAt at hc
      rw [qjC hxl] at hc
      have:=hn _ (js hxl)
      rw [hc] at this
      exact absurd this (by decide)
theorem qgU {ps:List qO} (h:pinsB ps=true):(2≤ps.length∧ps.length≤5)∧clkAt ps ((ps.length:Int)-1)=false:=by
  unfold pinsB lenB at h
  simp only [jf,decide_eq_true_eq] at h
  refine ⟨h.2.1,?_⟩
  have h1:=qap.1 h.1 (ps.length-1) (by omega)
  unfold pinB at h1
  rw [show decide (ps.length-1+1=ps.length)=true by simp;omega] at h1
  simp only [cond_true,jf,ju] at h1
  unfold clkAt
  rw [show ((ps.length:Int)-1).toNat=ps.length-1 by omega]
  exact h1.2.2
theorem qsF {ps:List qO} {a:qF} (h:pinsB ps=true) (h1:clkN ps ps.length≤1):arcI ps a=arcS ps a:=by
  obtain ⟨⟨hm,hm5⟩,hlast⟩:=qgU h
  rw [jh]
  unfold arcI arcS
  cases h45:((a.Ay==4) || (a.Ay==5)) with
  | true =>
    have k1:(a.Ay==1)=false:=by simp at h45 ⊢;omega
    have k23:((a.Ay==2) || (a.Ay==3))=false:=by simp at h45 ⊢;omega
    rw [k1,k23]
    simp only [cond_true,cond_false,jf,qbO,decide_eq_true_eq,beq_iff_eq,ju,beq_eq_false_iff_ne,ne_eq]
    constructor
    · rintro ⟨hs,hsl,hd,hf,hf0,ht,hne⟩
      obtain ⟨hl,hc⟩:=(qlQ h1 hf0).1 hf.symm
      have hfl:a.Bd ≠ (ps.length:Int)-1:=by intro e;rw [e,hlast] at hc;cases hc
      refine ⟨⟨⟨hf0,by omega⟩,⟨ht.1,by omega⟩⟩,hc,by omega,?_,hs,hd,hsl⟩
      cases hct:clkAt ps a.To with
      | false=>rfl
      | true =>
        have:=(qlQ h1 ht.1).2 ⟨by omega,hct⟩
        omega
    · rintro ⟨⟨hf,ht⟩,hc,hlt,hct,hs,hd,hsl⟩
      have:=(qlQ h1 hf.1).2 ⟨by omega,hc⟩
      refine ⟨hs,hsl,hd,this.symm,hf.1,⟨ht.1,by omega⟩,?_⟩
      intro e
      rw [e,hc] at hct
      cases hct
  | false =>
    simp only [cond_false,jf,qbO,beq_iff_eq]
    cases (a.Ay==1)
    · cases ((a.Ay==2) || (a.Ay==3))
      · simp
      · simp only [cond_true,cond_false,jf,beq_iff_eq]
        constructor
        · rintro ⟨⟨h1,h2,h3,h4⟩,h5,h6⟩
          exact ⟨⟨h4,by omega⟩,h5,h3,h6,h1,h2⟩
        · rintro ⟨⟨h4,h7⟩,h5,h3,h6,h1,h2⟩
          exact ⟨⟨h1,h2,h3,h4⟩,h5,h6⟩
    · simp only [cond_true,jf,qbO,ju,beq_iff_eq]
      constructor
      · rintro ⟨⟨h1,h2,h3,h4⟩,h5,h6⟩
        exact ⟨⟨h4,by omega⟩,h5,h3,h6,h1,h2⟩
      · rintro ⟨⟨h4,h7⟩,h5,h3,h6,h1,h2⟩
        exact ⟨⟨h1,h2,h3,h4⟩,h5,h6⟩
theorem qow {ps:List qO} {a:qF} (h:arcS ps a=true):1≤a.Ay∧a.Ay≤5:=by
  unfold arcS at h
  rw [jf] at h
  have h:=h.2
  cases h1:(a.Ay==1)
  · cases h2:((a.Ay==2) || (a.Ay==3))
    · cases h4:((a.Ay==4) || (a.Ay==5))
      · rw [h1,h2,h4] at h;cases h
      · simp at h4;omega
    · simp at h2;omega
  · simp at h1;omega
def sameArc (x y:qF):Bool:=(x.Ay==y.Ay)&&((x.Bd==y.Bd)&&(x.To==y.To))
def newArc (ar:List qF) (j:Nat):Bool:=allN (fun i=>!sameArc (gt ar i) (gt ar j)) j
theorem qqU {c:qp} (h:okL qkb c.Am) (ha:okL qkL c.Aj) (hm:2≤c.Am.length):Ev (fun n=>qeV n c) (allN (fun j=>arcI c.Am (gt c.Aj j)&&newArc c.Aj j) c.Aj.length&&decide (c.Aj.length≤8)):=by
  have hl:=ha.len
  have h1:∀ (ar:List qF) (y:qF),ar.length≤1048576→Ev (fun n=>qW n ar y) (ar.any fun x=>sameArc x y):=by
    intro ar y hl
    unfold qW
    refine Ev.bind (b:=ixL (fun x=>sameArc x y) ar) (qfG (fin:=(ar.length:Int)) (Lf:=qC ar y) (pf:=fun n x=>qdU n x y) (fun x _=>?_)
      (fun n=>by simp only [qC,qj (je _),cond_false])
      (fun n j x hx=>by
        have hj:=(List.getElem?_eq_some_iff.1 hx).1
        simp only [qC,qi hj,cond_true,qz hx,jd,wS j])
      (fun n=>by unfold qaE;congr 1;funext o;cases o<;>rfl)) (Ev.now (by rw [qk5]))
    unfold qdU sameArc
    exact Ev.andP fun _=>Ev.andP fun _=>.done
  have hL:Ev (fun n=>qbC c n 0) (bif allN (fun j=>arcI c.Am (gt c.Aj j)&&newArc c.Aj j) c.Aj.length then .nxt (c.Aj.length:Int) else .ret false):=by
    refine qde ?_ (fun j hj X hX=>Ev.succ ?_)
    · exact Ev.succ (by simp only [qbC,qj (je _),cond_false];exact .done)
    · simp only [qbC,qi hj,cond_true,qN hj,jd,qrJ (Nat.le_of_lt hj),wS j]
      refine Ev.chk (qsQ h (qjT ha hj) hm) fun _=>Ev.chkT1 ?_ (fun _=>hX)
      refine (h1 _ _ (by simp;omega)).cast ?_
      rw [qsa (Nat.le_of_lt hj)];rfl
  unfold qeV
  refine Ev.bind hL ?_
  cases allN (fun j=>arcI c.Am (gt c.Aj j)&&newArc c.Aj j) c.Aj.length
  · exact .done
  · refine Ev.now ?_
    show some (decide ((c.Aj.length:Int)≤((8:Nat):Int)))=some (true&&decide (c.Aj.length≤8))
    rw [qiG,jA]
def hasB (ar:List qF) (k:Int):Bool:=ar.any fun a=>a.Ay==k
theorem qlJ {c:qp} {k:Int} (hl:c.Aj.length≤1048576):Ev (fun n=>qcc n c k) (hasB c.Aj k):=by
  unfold qcc qaM
  exact Ev.last (Ev.bind (b:=ixL (fun x=>x.Ay==k) c.Aj) (qfG (fin:=(c.Aj.length:Int)) (Lf:=qI c.Aj k) (pf:=fun n x=>qhy n x k) (fun x _=>.done)
      (fun n=>by simp only [qI,qj (je _),cond_false])
      (fun n j x hx=>by
        have hj:=(List.getElem?_eq_some_iff.1 hx).1
        simp only [qI,qi hj,cond_true,qz hx,jd,wS j])
      (fun n=>by unfold qa2;congr 1;funext o;cases o<;>rfl)) (Ev.now (by rw [qk5];rfl)))
def kindN (ar:List qF) (k:Nat) (j:Nat):Nat:=cntP (fun i=>(gt ar i).Ay==(k:Int)) j
theorem qol {ar:List qF} {k:Nat}:decide (((kindN ar k ar.length:Nat):Int) > 0)=hasB ar k:=by
  rw [show decide (((kindN ar k ar.length:Nat):Int) > 0)=decide (0<kindN ar k ar.length) by simp]
  unfold kindN hasB
  rw [qpZ,qs4]
theorem qqq {ar:List qF} {k:Nat}:(((kindN ar k ar.length:Nat):Int)==0) = !hasB ar k:=by
  rw [←qol,jh];simp
theorem qpR {c:qp} (ha:okL qkL c.Aj) (hk:∀ j,j<c.Aj.length→1≤(gt c.Aj j).Ay∧(gt c.Aj j).Ay≤5):Ev (fun n=>qgZ n c) (vecC (fun k=>kindN c.Aj k c.Aj.length) 6):=by
  have hl:=ha.len
  have hL:Ev (fun n=>qcb c n (vecC (fun _=>0) 6) 0) (vecC (fun k=>kindN c.Aj k c.Aj.length) 6,(c.Aj.length:Int)):=by
    refine loopF (Lf:=qcb c) (S:=fun j=>vecC (fun k=>kindN c.Aj k j) 6) (len:=c.Aj.length) (fun n=>?_) (fun j hj X hX=>?_)
    · simp only [qcb,qj (je _),cond_false]
    · obtain ⟨k1,k5⟩:=hk j hj
      have ek:(gt c.Aj j).Ay=(((gt c.Aj j).Ay.toNat:Nat):Int):=qj4 (by omega)
      have hc:kindN c.Aj (gt c.Aj j).Ay.toNat j≤j:=qe1
      simp only [qcb,qi hj,cond_true,qN hj,jd,wS j]
      rw [ek,qij (show (gt c.Aj j).Ay.toNat<6 by omega)]
      simp only [jd]
      rw [qoD (c:=fun k=>kindN c.Aj k j) (by show kindN c.Aj _ j<_;omega)]
      have:vecC (fun i=>kindN c.Aj i j+(bif decide ((gt c.Aj j).Ay.toNat=i) then 1 else 0)) 6=vecC (fun k=>kindN c.Aj k (j+1)) 6:=by
        refine qix (fun k _=>?_)
        show _=kindN c.Aj k j+(bif (gt c.Aj j).Ay==(k:Int) then 1 else 0)
        congr 2
        rw [jh];simp;omega
      rw [this]
      exact hX
  unfold qgZ
  rw [show mkS 6 (0:Int)=some (vecC (fun _=>0) 6) from qkl (m:=6) (by omega)]
  simp only [jd]
  exact Ev.bind hL .done
def kindB (c:qp):Bool :=
  bif c.Ay==1 then (((clkN c.Am c.Am.length:Nat):Int)==0)&&(((c.Bc.length:Int)==((2 ^ (c.Am.length-1):Nat):Int))&&(c.Bc.all fun x=>inI x 0 1))
  else bif c.Ay==2 then (((clkN c.Am c.Am.length:Nat):Int)==1)&&(((c.Bc.length:Int)==0)&&(!hasB c.Aj 1&&!(hasB c.Aj 2==hasB c.Aj 3)))
  else bif c.Ay==3 then (((clkN c.Am c.Am.length:Nat):Int)==1)&&(((c.Bc.length:Int)==0)&&(hasB c.Aj 1&&(hasB c.Aj 2&&!hasB c.Aj 3)))
  else false
theorem qoz {c:qp} (h:kindB c=true):clkN c.Am c.Am.length≤1:=by
  unfold kindB at h
  cases h1:(c.Ay==1)
  · cases h2:(c.Ay==2)
    · cases h3:(c.Ay==3)
      · rw [h1,h2,h3] at h;cases h
      · rw [h1,h2,h3] at h
        simp only [cond_true,cond_false,jf,beq_iff_eq] at h
        omega
    · rw [h1,h2] at h
      simp only [cond_true,cond_false,jf,beq_iff_eq] at h
      omega
  · rw [h1] at h
    simp only [cond_true,jf,beq_iff_eq] at h
    omega
theorem qpi {m:Nat} (h1:2≤m) (h2:m≤5):shlS 1 (W64 ((m:Int)-1))=some ((2 ^ (m-1):Nat):Int)∧shlS 1 (IntKind.wrap .u64 (W64 ((m:Int)-1)))=some ((2 ^ (m-1):Nat):Int):=by
  have:m=2∨m=3∨m=4∨m=5:=by omega
  rcases this with rfl|rfl|rfl|rfl<;>exact ⟨by decide,by decide⟩
theorem qpT {c:qp} (hc:qkp c) (hm:2≤c.Am.length) (hm5:c.Am.length≤5):Ev (fun n=>qew n c) (kindB c):=by
  have hl:=hc.Am.len
  have hL:Ev (fun n=>qaH c n 0 0) (((clkN c.Am c.Am.length:Nat):Int),(c.Am.length:Int)):=by
    refine loopF (Lf:=qaH c) (S:=fun j=>((clkN c.Am j:Nat):Int)) (len:=c.Am.length) (fun n=>?_) (fun j hj X hX=>?_)
    · simp only [qaH,qj (je _),cond_false]
    · have hn:clkN c.Am j≤j:=qe1
      simp only [qaH,qi hj,cond_true,qN hj,jd,wS j,qcJ (show clkN c.Am j<9223372036854775807 by omega)]
      have hck:clkN c.Am (j+1)=clkN c.Am j+(bif (gt c.Am j).Bh then 1 else 0):=rfl
      rw [hck] at hX
      cases hc:(gt c.Am j).Bh
      · rw [hc] at hX;exact Ev.ff rfl hX
      · rw [hc] at hX;exact Ev.tt rfl hX
  unfold qew kindB
  refine Ev.bind hL ?_
  simp only [qdc,qbD,jd,(qpi hm hm5).1]
  have hal:=hc.Aj.len
  refine Ev.iff (fun _=>?_) (fun _=>Ev.iff (fun _=>?_) (fun _=>Ev.iff (fun _=>?_) (fun _=>.done)))
  · exact Ev.andP fun _=>Ev.andP fun _=>Ev.last (qfq hc.Bc.len)
  · exact Ev.andP fun _=>Ev.andP fun _=>Ev.bind (qlJ hal) (Ev.andP fun _=>Ev.bind (qlJ hal) (Ev.bind (qlJ hal) .done))
  · exact Ev.andP fun _=>Ev.andP fun _=>Ev.and (qlJ hal) fun _=>Ev.and (qlJ hal) fun _=>Ev.bind (qlJ hal) .done
def cellB (c:qp):Bool :=
  nameB c.Ar&&(pinsB c.Am&&((allN (fun j=>arcI c.Am (gt c.Aj j)&&newArc c.Aj j) c.Aj.length&&decide (c.Aj.length≤8))&&(inI c.Bq 0 100000&&(inI c.Bj 0 100000&&kindB c))))
theorem qrq {c:qp} (hc:qkp c):Ev (fun n=>qiO n c) (cellB c):=by
  simp only [qiO,qot hc.Ar,qcm,jd]
  unfold cellB
  refine Ev.andP fun _=>Ev.and (qqD hc.Am) fun hp=>?_
  obtain ⟨⟨hm,hm5⟩,_⟩:=qgU hp
  exact Ev.and (qqU hc.Am hc.Aj hm) fun _=>Ev.andP fun _=>Ev.andP fun _=>Ev.last (qpT hc hm hm5)
theorem qqS {c:qp} (hc:qkp c):Ev (fun n=>qiQ n c) (cellB c):=by
  have hal:=hc.Aj.len
  have htl:=hc.Bc.len
  have e:cellB c=((pinsB c.Am&&(nameB c.Ar&&(decide (c.Aj.length≤8)&&(inI c.Bq 0 100000&&inI c.Bj 0 100000))))&&(allN (fun j=>arcS c.Am (gt c.Aj j)&&newArc c.Aj j) c.Aj.length&&kindB c)):=by
    unfold cellB
    cases hk:kindB c
    · simp
    · cases hp:pinsB c.Am
      · simp
      · rw [qf2 (fun j _=>by rw [qsF hp (qoz hk)])]
        cases nameB c.Ar<;>cases allN (fun j=>arcS c.Am (gt c.Aj j)&&newArc c.Aj j) c.Aj.length<;>cases decide (c.Aj.length≤8)<;>cases inI c.Bq 0 100000<;>cases inI c.Bj 0 100000<;>rfl
  rw [e]
  unfold qiQ
  refine Ev.bind (qqE hc.Am) ?_
  cases hp:pinsB c.Am
  · exact .done
  · obtain ⟨⟨hm,hm5⟩,_⟩:=qgU hp
    simp only [cond_true,jA,Bool.not_true,cond_false]
    refine Ev.guardB ?_ (fun _=>?_)
    · simp only [qef,jd,qbc]
      refine Ev.orB (qk3 hc.Ar) fun _=>?_
      rw [show decide ((c.Aj.length:Int) > 8) = !decide (c.Aj.length≤8) by rw [jh];simp;omega,qbc]
      exact Ev.orBP fun _=>Ev.orBP fun _=>.done
    · have hL2:∀ j,j<c.Aj.length→Ev (fun n=>qci c (j:Int) (gt c.Aj j) n 0) (bif newArc c.Aj j then .nxt (j:Int) else .ret false):=by
        intro j hj
        refine qde ?_ (fun i hi X hX=>Ev.succ ?_)
        · exact Ev.succ (by simp only [qci,qj (je _),cond_false];exact .done)
        · simp only [qci,qi hi,cond_true,qN (show i<c.Aj.length by omega),jd,wS i]
          unfold sameArc
          cases ((gt c.Aj i).Ay==(gt c.Aj j).Ay)
          · exact hX
          · cases ((gt c.Aj i).Bd==(gt c.Aj j).Bd)
            · exact hX
            · cases ((gt c.Aj i).To==(gt c.Aj j).To)
              · exact hX
              · exact .done
      have hL1:Ev (fun n=>qeh c n 0) (bif allN (fun j=>arcS c.Am (gt c.Aj j)&&newArc c.Aj j) c.Aj.length then .nxt (c.Aj.length:Int) else .ret false):=by
        refine qde ?_ (fun j hj X hX=>Ev.succ ?_)
        · exact Ev.succ (by simp only [qeh,qj (je _),cond_false];exact .done)
        · simp only [qeh,qi hj,cond_true,qN hj,jd,wS j]
          refine Ev.chk (qrT hc.Am (qjT hc.Aj hj) hm) fun _=>Ev.bind (hL2 j hj) ?_
          cases newArc c.Aj j
          · exact .done
          · exact hX
      have hL3:Ev (fun n=>qd8 c n 0) (bif (c.Bc.all fun x=>inI x 0 1) then .nxt (c.Bc.length:Int) else .ret false) :=
        qk9 (fun n=>by simp only [qd8,qj (je _),cond_false]) (fun j hj X hX=>by
          simp only [qd8,qi hj,cond_true,qf6 hj,jd,qef,wS j,qbc]
          exact Ev.okP1 fun _=>hX)
      refine Ev.bind hL1 ?_
      cases hA:allN (fun j=>arcS c.Am (gt c.Aj j)&&newArc c.Aj j) c.Aj.length
      · exact .done
      · have hk:∀ j,j<c.Aj.length→1≤(gt c.Aj j).Ay∧(gt c.Aj j).Ay≤5:=fun j hj=>by
          have:=qap.1 hA j hj
          rw [jf] at this
          exact qow this.1
        simp only [cond_true,jA]
        refine Ev.bind (qpR hc.Aj hk) ?_
        simp only [(qpi hm hm5).2,jd,
          show idx (vecC (fun k=>kindN c.Aj k c.Aj.length) 6) (1:Int)=some ((kindN c.Aj 1 c.Aj.length:Nat):Int) from qij (k:=1) (by omega),
          show idx (vecC (fun k=>kindN c.Aj k c.Aj.length) 6) (2:Int)=some ((kindN c.Aj 2 c.Aj.length:Nat):Int) from qij (k:=2) (by omega),
          show idx (vecC (fun k=>kindN c.Aj k c.Aj.length) 6) (3:Int)=some ((kindN c.Aj 3 c.Aj.length:Nat):Int) from qij (k:=3) (by omega),qol,qqq]
        unfold kindB
        refine Ev.iff (fun _=>?_) (fun _=>Ev.iff (fun _=>?_) (fun _=>Ev.iff (fun _=>?_) (fun _=>.done)))
        · refine Ev.bind hL3 ?_
          cases (c.Bc.all fun x=>inI x 0 1)
          · exact Ev.now (by simp)
          · exact (Ev.andP (fun _=>.done)).cast (by rw [Bool.and_true])
        · refine (Ev.andP fun _=>Ev.andP fun _=>Ev.andP fun _=>.done).cast ?_
          cases (((clkN c.Am c.Am.length:Nat):Int)==1)<;>cases ((c.Bc.length:Int)==0)<;>cases hasB c.Aj ((1:Nat):Int)<;>cases hasB c.Aj ((2:Nat):Int)<;>cases hasB c.Aj ((3:Nat):Int)<;>rfl
        · refine (Ev.andP fun _=>Ev.andP fun _=>Ev.andP fun _=>Ev.andP fun _=>.done).cast ?_
          cases (((clkN c.Am c.Am.length:Nat):Int)==1)<;>cases ((c.Bc.length:Int)==0)<;>cases hasB c.Aj ((1:Nat):Int)<;>cases hasB c.Aj ((2:Nat):Int)<;>cases hasB c.Aj ((3:Nat):Int)<;>rfl
def libB (l:qn):Bool:=l.Ak.all cellB&&(decide (l.Ak.length≤8)&&namesB (l.Ak.map qp.Ar))
theorem qoP {l:qn} (h:qf4 l):Ev (fun n=>qgd n l) (libB l):=by
  have hl:=h.Ak.len
  have hL:Ev (fun n=>qbR l n ([]:List ByteArray) 0) (bif allN (fun j=>cellB (gt l.Ak j)) l.Ak.length then .nxt (l.Ak.map qp.Ar,(l.Ak.length:Int)) else .ret false):=by
    refine loopN (Lf:=qbR l) (S:=fun j=>(l.Ak.take j).map qp.Ar) (fun j=>cellB (gt l.Ak j)) (fun n=>?_) (fun j hj hp X hX=>?_)
    · simp only [qbR,qj (je _),cond_false,jO]
    · simp only [qbR,qi hj,cond_true,qN hj,jd,qi3 hj hl,qen (g:=qp.Ar) hj,wS j]
      exact Ev.chk1 (qrq (qjT h.Ak hj)) hX
  unfold qgd libB
  rw [qhw]
  refine Ev.bind hL ?_
  cases allN (fun j=>cellB (gt l.Ak j)) l.Ak.length
  · exact .done
  · simp only [cond_true,jA,show decide ((l.Ak.length:Int)≤8)=decide (l.Ak.length≤8) from qiG (k:=8)]
    exact Ev.andP fun _=>Ev.last (qhh (qkj h.Ak (fun x hx=>hx.Ar)))
end Go.Fw


namespace Go.Fw
open Go
set_option maxRecDepth 100000
theorem qqp {c:qp} (h:cellB c=true):nameB c.Ar=true:=by
 unfold cellB at h;rw [jf] at h;exact h.1
theorem qkV {c:qp} (h:cellB c=true):pinsB c.Am=true:=by
 unfold cellB at h;simp only [jf] at h;exact h.2.1
theorem qnR {l:qn} (h:qf4 l):Ev (fun n=>qgz n l) (libB l):=by
 have hl:=h.Ak.len
 have hL2:∀ j,j<l.Ak.length→Ev (fun n=>qcq l (j:Int) n 0) (bif allN (neB (l.Ak.map qp.Ar) j) j then .nxt (j:Int) else .ret false):=by
  intro j hj
  refine qde ?_ (fun i hi X hX=>Ev.succ ?_)
  ·exact Ev.succ (by simp only [qcq,qj (je _),cond_false];exact .done)
  ·simp only [qcq,qi hi,cond_true,qN (show i<l.Ak.length by omega),qN hj,jd,qfH,wS i]
   unfold neB
   rw [qh4 (g:=qp.Ar) (show i<l.Ak.length by omega),qh4 (g:=qp.Ar) hj]
   exact Ev.chkP1 (fun _=>hX)
 have hL1:Ev (fun n=>qct l n 0) (bif allN (fun j=>cellB (gt l.Ak j)&&allN (neB (l.Ak.map qp.Ar) j) j) l.Ak.length then .nxt (l.Ak.length:Int) else .ret false):=by
  refine qde ?_ (fun j hj X hX=>Ev.succ ?_)
  ·exact Ev.succ (by simp only [qct,qj (je _),cond_false];exact .done)
  ·simp only [qct,qi hj,cond_true,qN hj,jd,wS j]
   refine Ev.chk (qqS (qjT h.Ak hj)) fun _=>Ev.bind (hL2 j hj) ?_
   cases allN (neB (l.Ak.map qp.Ar) j) j
   ·exact .done
   ·exact hX
 have e:libB l=(allN (fun j=>cellB (gt l.Ak j)&&allN (neB (l.Ak.map qp.Ar) j) j) l.Ak.length&&decide (l.Ak.length≤8)):=by
  unfold libB namesB
  rw [qhw,jE,Bool.and_comm (decide (l.Ak.length≤8)),←Bool.and_assoc,←qke]
  congr 1
  refine qf2 (fun j hj=>?_)
  rw [qh4 (g:=qp.Ar) hj]
  cases hc:cellB (gt l.Ak j)
  ·rfl
  ·rw [qqp hc];rfl
 rw [e]
 unfold qgz
 refine Ev.bind hL1 ?_
 cases allN (fun j=>cellB (gt l.Ak j)&&allN (neB (l.Ak.map qp.Ar) j) j) l.Ak.length
 ·exact .done
 ·refine Ev.now ?_
  show some (decide ((l.Ak.length:Int)≤((8:Nat):Int)))=some (true&&decide (l.Ak.length≤8))
  rw [qiG,jA]
theorem qjb {c c':Nat→Nat} {m:Nat} {x:Int} (h0:0≤x) (h1:x<m) (hc:c x.toNat<9223372036854775807) (he:∀ k,k<m→c' k=c k+(bif x==(k:Int) then 1 else 0)) :
  idx (vecC c m) x=some (c x.toNat:Int)∧setS (vecC c m) x (W64 ((c x.toNat:Int)+1))=vecC c' m:=by
 have ex:x=(x.toNat:Int):=qj4 h0
 have e1:=qij (c:=c) (m:=m) (k:=x.toNat) (by omega)
 have e2:=qoD (c:=c) (m:=m) (k:=x.toNat) hc
 rw [←ex] at e1 e2
 refine ⟨e1,e2.trans (qix (fun k hk=>?_))⟩
 rw [he k hk]
 congr 2
 rw [jh];simp;omega
def netB (d:qc) (x:Int):Bool:=inI x 0 ((d.Ah.length:Int)-1)
theorem qnv {n:Nat} {d:qc} {x:Int} (hl:d.Ah.length≤1048576):qbo n d x=some (netB d x):=by
 simp only [qbo,qf0,jd,qcm,qdk (show d.Ah.length≤9223372036854775807 by omega)];rfl
theorem ql1 {n:Nat} {d:qc} {x:Int} (hl:d.Ah.length≤1048576):qX n x 0 (W64 ((d.Ah.length:Int)-1))=some (netB d x):=by
 rw [qef,qdk (show d.Ah.length≤9223372036854775807 by omega)];rfl
def hasNamesB (d:qc):Bool:=(decide (d.Aa.length≤14)&&(decide (d.Ah.length≤30)&&decide (d.Af.length≤8)))&&(namesB (d.Aa.map qd.Ar)&&(namesB d.Ah&&namesB (d.Af.map qB.Ar)))
theorem qpX {d:qc} (h:qh3 d):Ev (fun n=>qdN n d) (hasNamesB d):=by
 have hli:=h.Aa.len
 have hlp:=h.Af.len
 have hL1:Ev (fun n=>qaK d n ([]:List ByteArray) 0) (d.Aa.map qd.Ar,(d.Aa.length:Int)):=by
  refine loopF (Lf:=qaK d) (S:=fun j=>(d.Aa.take j).map qd.Ar) (len:=d.Aa.length) (fun n=>?_) (fun j hj X hX=>?_)
  ·simp only [qaK,qj (je _),cond_false,jO]
  ·simpa only [qaK,qi hj,cond_true,qN hj,jd,qi3 hj hli,qen (g:=qd.Ar) hj,wS j] using hX
 have hL2:Ev (fun n=>qaP d n ([]:List ByteArray) 0) (d.Af.map qB.Ar,(d.Af.length:Int)):=by
  refine loopF (Lf:=qaP d) (S:=fun j=>(d.Af.take j).map qB.Ar) (len:=d.Af.length) (fun n=>?_) (fun j hj X hX=>?_)
  ·simp only [qaP,qj (je _),cond_false,jO]
  ·simpa only [qaP,qi hj,cond_true,qN hj,jd,qi3 hj hlp,qen (g:=qB.Ar) hj,wS j] using hX
 unfold qdN hasNamesB
 refine Ev.bind hL1 (Ev.bind hL2 ?_)
 simp only [jE]
 rw [show decide ((d.Aa.length:Int)≤14)=decide (d.Aa.length≤14) from qiG (k:=14),show decide ((d.Ah.length:Int)≤30)=decide (d.Ah.length≤30) from qiG (k:=30),show decide ((d.Af.length:Int)≤8)=decide (d.Af.length≤8) from qiG (k:=8)]
 rw [Bool.and_assoc,Bool.and_assoc]
 exact Ev.andP fun _=>Ev.andP fun _=>Ev.andP fun _=>Ev.and (qhh (qkj h.Aa (fun x hx=>hx.Ar))) fun _=>Ev.and (qhh h.Ah) fun _=>Ev.last (qhh (qkj h.Af (fun x hx=>hx.Ar)))
def instB (l:qn) (d:qc) (x:qd):Bool:=inI x.Bl 0 ((l.Ak.length:Int)-1)&&(((x.Ah.length:Int)==((gt l.Ak x.Bl.toNat).Am.length:Int))&&x.Ah.all (netB d))
theorem qnZ {d:qc} {l:qn} {x:qd} (hn:d.Ah.length≤1048576) (hc:l.Ak.length≤1048576) (hx:x.Ah.length≤1048576):Ev (fun n=>qcM n d l x) (instB l d x):=by
 simp only [qcM,qeT,jd,qcm,qdk (show l.Ak.length≤9223372036854775807 by omega)]
 unfold instB
 refine Ev.andP fun hI=>?_
 rw [qbO] at hI
 rw [qif hI.1 (by omega)]
 simp only [jd]
 refine Ev.andP fun _=>Ev.bind (b:=x.Ah.any fun y=>!netB d y) ?_ (Ev.now (by rw [qmN]))
 unfold qaj
 exact Ev.bind (b:=ixL (fun y=>!netB d y) x.Ah) (qfG (fin:=(x.Ah.length:Int)) (Lf:=qy x.Ah d) (pf:=fun n y=>qcd n y d) (fun y _=>⟨0,fun n _=>by simp only [qcd,qnv hn,jd]⟩)
   (fun n=>by simp only [qy,qj (je _),cond_false])
   (fun n j y hx=>by
    have hj:=(List.getElem?_eq_some_iff.1 hx).1
    simp only [qy,qi hj,cond_true,qz hx,jd,wS j])
   (fun n=>by unfold qaz;congr 1;funext o;cases o<;>rfl)) (Ev.now (by rw [qk5]))
def portB (d:qc) (p:qB):Bool:=inI p.Bm 1 2&&netB d p.Bo
theorem qun {x:Int}:inI x 1 2=((x==1) || (x==2)):=by
 unfold inI;rw [jh];simp;omega
def lastN (x:qd):Int:=at0 x.Ah (x.Ah.length-1)
theorem qpS {x:qd} (h1:1≤x.Ah.length) (h2:x.Ah.length≤1048576):idx x.Ah (W64 ((x.Ah.length:Int)-1))=some (lastN x):=by
 rw [qdk (by omega),show ((x.Ah.length:Int)-1)=((x.Ah.length-1:Nat):Int) by omega,qbN (by omega)];rfl
theorem qrI {d:qc} {x:qd} (h1:1≤x.Ah.length) (h:x.Ah.all (netB d)=true):0≤lastN x∧lastN x<d.Ah.length:=by
 rw [qhq (d:=0),qap] at h
 have:=h (x.Ah.length-1) (by omega)
 unfold netB at this
 rw [qbO] at this
 unfold lastN at0
 omega
theorem qm0 {l:qn} {d:qc} {x:qd} (hl:libB l=true) (h:instB l d x=true):1≤x.Ah.length∧0≤lastN x∧lastN x<d.Ah.length:=by
 unfold instB at h
 simp only [jf,qbO,beq_iff_eq] at h
 obtain ⟨h1,h2,h3⟩:=h
 unfold libB at hl
 simp only [jf] at hl
 have hc:=hl.1
 rw [qhw,qap] at hc
 have:=qgU (qkV (hc x.Bl.toNat (by omega)))
 have h4:1≤x.Ah.length:=by omega
 exact ⟨h4,qrI h4 h3⟩
def drvI (d:qc) (k j:Nat):Nat:=cntP (fun i=>lastN (gt d.Aa i)==(k:Int)) j
def drvP (d:qc) (k j:Nat):Nat:=cntP (fun i=>((gt d.Af i).Bm==1)&&((gt d.Af i).Bo==(k:Int))) j
def drvB (d:qc):Bool:=allN (fun k=>((drvI d k d.Aa.length+drvP d k d.Af.length:Nat):Int)==1) d.Ah.length
def designB (l:qn) (d:qc):Bool:=(libB l&&hasNamesB d)&&(d.Aa.all (instB l d)&&(d.Af.all (portB d)&&drvB d))
theorem ql5 {d:qc} {k j:Nat}:drvI d k (j+1)=drvI d k j+(bif lastN (gt d.Aa j)==(k:Int) then 1 else 0):=rfl
theorem qkr {d:qc} {k j:Nat}:drvP d k (j+1)=drvP d k j+(bif ((gt d.Af j).Bm==1)&&((gt d.Af j).Bo==(k:Int)) then 1 else 0):=rfl
theorem qps {l:qn} {d:qc} (h:qf4 l) (hd:qh3 d):Ev (fun n=>qg8 n l d) (designB l d):=by
 have hli:=hd.Aa.len
 have hlp:=hd.Af.len
 have hln:=hd.Ah.len
 have hlc:=h.Ak.len
 unfold qg8 designB
 refine Ev.guardB (Ev.or (qoP h) fun _=>Ev.neg (qpX hd)) fun hb=>?_
 rw [jf] at hb
 rw [qkl (m:=d.Ah.length) (by omega)]
 simp only [jd]
 have hL1:Ev (fun n=>qca l d n (vecC (fun _=>0) d.Ah.length) 0) (bif allN (fun j=>instB l d (gt d.Aa j)) d.Aa.length then .nxt (vecC (fun k=>drvI d k d.Aa.length) d.Ah.length,(d.Aa.length:Int)) else .ret false):=by
  refine loopN (Lf:=qca l d) (S:=fun j=>vecC (fun k=>drvI d k j) d.Ah.length) (fun j=>instB l d (gt d.Aa j)) (fun n=>?_) (fun j hj hp X hX=>?_)
  ·simp only [qca,qj (je _),cond_false]
  ·simp only [qca,qi hj,cond_true,qN hj,jd,wS j]
   have hxl:=(qjT hd.Aa hj).Ah.len
   refine Ev.chk1 (qnZ hln hlc hxl) fun hi=>?_
   obtain ⟨h1,h2,h3⟩:=qm0 hb.1 hi
   have hc:drvI d (lastN (gt d.Aa j)).toNat j≤j:=qe1
   obtain ⟨e1,e2⟩:=qjb (c:=fun k=>drvI d k j) (c':=fun k=>drvI d k (j+1)) h2 h3 (by show drvI _ _ _<_;omega) (fun k _=>ql5)
   simp only [qpS h1 hxl,jd,e1,e2]
   exact hX hi
 have hL2:Ev (fun n=>qbx d n (vecC (fun k=>drvI d k d.Aa.length) d.Ah.length) 0) (bif allN (fun j=>portB d (gt d.Af j)) d.Af.length then .nxt (vecC (fun k=>drvI d k d.Aa.length+drvP d k d.Af.length) d.Ah.length,(d.Af.length:Int)) else .ret false):=by
  refine loopN (Lf:=qbx d) (S:=fun j=>vecC (fun k=>drvI d k d.Aa.length+drvP d k j) d.Ah.length) (fun j=>portB d (gt d.Af j)) (fun n=>?_) (fun j hj hp X hX=>?_)
  ·simp only [qbx,qj (je _),cond_false]
  ·simp only [qbx,qi hj,cond_true,qN hj,jd,qnv hln,bne,wS j]
   refine Ev.chkT1 ?_ fun hi=>?_
   ·unfold portB
    rw [qun]
    cases ((gt d.Af j).Bm==1)<;>cases ((gt d.Af j).Bm==2)<;>exact .done
   ·have hX:=hX hi
    unfold portB netB at hi
    simp only [jf,qbO] at hi
    have hc1:drvI d (gt d.Af j).Bo.toNat d.Aa.length≤d.Aa.length:=qe1
    have hc2:drvP d (gt d.Af j).Bo.toNat j≤j:=qe1
    cases h1:((gt d.Af j).Bm==1)
    ·have:vecC (fun k=>drvI d k d.Aa.length+drvP d k (j+1)) d.Ah.length=vecC (fun k=>drvI d k d.Aa.length+drvP d k j) d.Ah.length:=by
      refine qix (fun k _=>?_)
      rw [qkr,h1];rfl
     rw [this] at hX
     exact hX
    ·obtain ⟨e1,e2⟩:=qjb (c:=fun k=>drvI d k d.Aa.length+drvP d k j) (c':=fun k=>drvI d k d.Aa.length+drvP d k (j+1)) (x:=(gt d.Af j).Bo) (m:=d.Ah.length) hi.2.1 (by omega) (by show drvI _ _ _+drvP _ _ _<_;omega) (fun k _=>by rw [qkr,h1,jA];omega)
     simp only [cond_true,jd,e1,e2]
     exact hX
 rw [qhw,qhw]
 refine Ev.bind hL1 ?_
 cases allN (fun j=>instB l d (gt d.Aa j)) d.Aa.length
 ·exact .done
 ·refine Ev.bind hL2 ?_
  cases allN (fun j=>portB d (gt d.Af j)) d.Af.length
  ·exact .done
  ·simp only [cond_true,jA]
   unfold qa9
   refine Ev.bind (b:=(vecC (fun k=>drvI d k d.Aa.length+drvP d k d.Af.length) d.Ah.length).any fun x=>!(x==1)) (Ev.bind (b:=ixL (fun x=>!(x==1)) (vecC (fun k=>drvI d k d.Aa.length+drvP d k d.Af.length) d.Ah.length)) (qfG (fin:=(((vecC (fun k=>drvI d k d.Aa.length+drvP d k d.Af.length) d.Ah.length).length:Nat):Int)) (Lf:=qT (vecC (fun k=>drvI d k d.Aa.length+drvP d k d.Af.length) d.Ah.length)) (pf:=fun n y=>qhx n y) (fun y _=>.done)
    (fun n=>by simp only [qT,qj (je _),cond_false])
    (fun n j y hx=>by
     have hj:=(List.getElem?_eq_some_iff.1 hx).1
     have:j<d.Ah.length:=by rw [qki] at hj;exact hj
     simp only [qT,qi hj,cond_true,qz hx,jd,wS j])
    (fun n=>by unfold qbl;congr 1;funext o;cases o<;>rfl)) (Ev.now (by rw [qk5]))) (Ev.now ?_)
   rw [qmN,qhq (d:=0),qki]
   unfold drvB
   congr 1
   exact qf2 (fun k hk=>by
    have:=qp5 (c:=fun k=>drvI d k d.Aa.length+drvP d k d.Af.length) hk
    unfold at0 at this
    rw [this])
theorem qpj {l:qn} {d:qc} (h:qf4 l) (hd:qh3 d):Ev (fun n=>qgX n l d) (d.Aa.all (instB l d)&&d.Af.all (portB d)):=by
 have hli:=hd.Aa.len
 have hlp:=hd.Af.len
 have hln:=hd.Ah.len
 have hlc:=h.Ak.len
 have hL2:∀ x:qd,x.Ah.length≤1048576→Ev (fun n=>qc1 d x n 0) (bif x.Ah.all (netB d) then .nxt (x.Ah.length:Int) else .ret false):=fun x hx =>
  qk9 (fun n=>by simp only [qc1,qj (je _),cond_false]) (fun j hj X hX=>by
   simp only [qc1,qi hj,cond_true,qf6 hj,jd,ql1 hln,wS j,qbc]
   exact Ev.okP1 fun _=>hX)
 have hL1:Ev (fun n=>qc8 l d n 0) (bif allN (fun j=>instB l d (gt d.Aa j)) d.Aa.length then .nxt (d.Aa.length:Int) else .ret false):=by
  refine qde ?_ (fun j hj X hX=>Ev.succ ?_)
  ·exact Ev.succ (by simp only [qc8,qj (je _),cond_false];exact .done)
  ·simp only [qc8,qi hj,cond_true,qN hj,jd,qef,qdk (show l.Ak.length≤9223372036854775807 by omega),wS j,bne]
   have hxl:=(qjT hd.Aa hj).Ah.len
   unfold instB
   rw [←Bool.and_assoc]
   refine Ev.chkT ?_ fun _=>Ev.bind (hL2 _ hxl) ?_
   ·simp only [qbc]
    refine Ev.orBP fun hI=>?_
    rw [qbO] at hI
    rw [qif hI.1 (by omega)]
    exact .done
   ·cases (gt d.Aa j).Ah.all (netB d)
    ·exact .done
    ·exact hX
 have hL3:Ev (fun n=>qc0 d n 0) (bif allN (fun j=>portB d (gt d.Af j)) d.Af.length then .nxt (d.Af.length:Int) else .ret false):=by
  refine qde ?_ (fun j hj X hX=>Ev.succ ?_)
  ·exact Ev.succ (by simp only [qc0,qj (je _),cond_false];exact .done)
  ·simp only [qc0,qi hj,cond_true,qN hj,jd,ql1 hln,wS j]
   simp only [qef,jd,qbc]
   unfold portB
   exact Ev.okP fun _=>Ev.okP1 fun _=>hX
 unfold qgX
 rw [qhw,qhw]
 refine Ev.bind hL1 ?_
 cases allN (fun j=>instB l d (gt d.Aa j)) d.Aa.length
 ·exact .done
 ·refine Ev.bind hL3 ?_
  cases allN (fun j=>portB d (gt d.Af j)) d.Af.length<;>exact .done
theorem qpa {l:qn} {d:qc} (h:qf4 l) (hd:qh3 d):Ev (fun n=>qg0 n l d) (designB l d):=by
 have hli:=hd.Aa.len
 have hlp:=hd.Af.len
 have hln:=hd.Ah.len
 have hlc:=h.Ak.len
 have e:designB l d=((libB l&&(decide (d.Aa.length≤14)&&(decide (d.Ah.length≤30)&&(decide (d.Af.length≤8)&&(d.Aa.all (instB l d)&&d.Af.all (portB d))))))&&((namesB (d.Aa.map qd.Ar)&&(namesB (d.Af.map qB.Ar)&&namesB d.Ah))&&drvB d)):=by
  unfold designB hasNamesB
  generalize libB l=a1
  generalize decide (d.Aa.length≤14)=a2
  generalize decide (d.Ah.length≤30)=a3
  generalize decide (d.Af.length≤8)=a4
  generalize d.Aa.all (instB l d)=a5
  generalize d.Af.all (portB d)=a6
  generalize namesB (d.Aa.map qd.Ar)=a7
  generalize namesB (d.Af.map qB.Ar)=a8
  generalize namesB d.Ah=a9
  generalize drvB d=a10
  rw [jh]
  simp only [jf]
  constructor
  ·rintro ⟨⟨h1,⟨h2,h3,h4⟩,h7,h9,h8⟩,h5,h6,h10⟩
   exact ⟨⟨h1,h2,h3,h4,h5,h6⟩,⟨h7,h8,h9⟩,h10⟩
  ·rintro ⟨⟨h1,h2,h3,h4,h5,h6⟩,⟨h7,h8,h9⟩,h10⟩
   exact ⟨⟨h1,⟨h2,h3,h4⟩,h7,h9,h8⟩,h5,h6,h10⟩
 rw [e]
 unfold qg0
 refine Ev.guardB ?_ fun hb=>?_
 ·refine Ev.or (qnR h) fun _=>?_
  rw [show decide ((d.Aa.length:Int) > 14) = !decide (d.Aa.length≤14) by rw [jh];simp;omega,show decide ((d.Ah.length:Int) > 30) = !decide (d.Ah.length≤30) by rw [jh];simp;omega,show decide ((d.Af.length:Int) > 8) = !decide (d.Af.length≤8) by rw [jh];simp;omega]
  simp only [qbc]
  exact Ev.orBP fun _=>Ev.orBP fun _=>Ev.orBP fun _=>Ev.neg (qpj h hd)
 ·simp only [jf] at hb
  obtain ⟨hlib,_,_,_,hI,hP⟩:=hb
  rw [qhw,qap] at hI hP
  have hL1:Ev (fun n=>qb6 d n ([]:List ByteArray) 0) (d.Aa.map qd.Ar,(d.Aa.length:Int)):=by
   refine loopF (Lf:=qb6 d) (S:=fun j=>(d.Aa.take j).map qd.Ar) (len:=d.Aa.length) (fun n=>?_) (fun j hj X hX=>?_)
   ·simp only [qb6,qj (je _),cond_false,jO]
   ·simpa only [qb6,qi hj,cond_true,qN hj,jd,qi3 hj hli,qen (g:=qd.Ar) hj,wS j] using hX
  have hL2:Ev (fun n=>qb7 d n ([]:List ByteArray) 0) (d.Af.map qB.Ar,(d.Af.length:Int)):=by
   refine loopF (Lf:=qb7 d) (S:=fun j=>(d.Af.take j).map qB.Ar) (len:=d.Af.length) (fun n=>?_) (fun j hj X hX=>?_)
   ·simp only [qb7,qj (je _),cond_false,jO]
   ·simpa only [qb7,qi hj,cond_true,qN hj,jd,qi3 hj hlp,qen (g:=qB.Ar) hj,wS j] using hX
  have hL3:Ev (fun n=>qb5 d n (vecC (fun _=>0) d.Ah.length) 0) (vecC (fun k=>drvI d k d.Aa.length) d.Ah.length,(d.Aa.length:Int)):=by
   refine loopF (Lf:=qb5 d) (S:=fun j=>vecC (fun k=>drvI d k j) d.Ah.length) (len:=d.Aa.length) (fun n=>?_) (fun j hj X hX=>?_)
   ·simp only [qb5,qj (je _),cond_false]
   ·have hxl:=(qjT hd.Aa hj).Ah.len
    obtain ⟨h1,h2,h3⟩:=qm0 hlib (hI j hj)
    have hc:drvI d (lastN (gt d.Aa j)).toNat j≤j:=qe1
    obtain ⟨e1,e2⟩:=qjb (c:=fun k=>drvI d k j) (c':=fun k=>drvI d k (j+1)) h2 h3 (by show drvI _ _ _<_;omega) (fun k _=>ql5)
    simpa only [qb5,qi hj,cond_true,qN hj,jd,wS j,qpS h1 hxl,e1,e2] using hX
  have hL4:Ev (fun n=>qbB d n (vecC (fun k=>drvI d k d.Aa.length) d.Ah.length) 0) (vecC (fun k=>drvI d k d.Aa.length+drvP d k d.Af.length) d.Ah.length,(d.Af.length:Int)):=by
   refine loopF (Lf:=qbB d) (S:=fun j=>vecC (fun k=>drvI d k d.Aa.length+drvP d k j) d.Ah.length) (len:=d.Af.length) (fun n=>?_) (fun j hj X hX=>?_)
   ·simp only [qbB,qj (je _),cond_false]
   ·have hi:=hP j hj
    unfold portB netB at hi
    simp only [jf,qbO] at hi
    have hc1:drvI d (gt d.Af j).Bo.toNat d.Aa.length≤d.Aa.length:=qe1
    have hc2:drvP d (gt d.Af j).Bo.toNat j≤j:=qe1
    simp only [qbB,qi hj,cond_true,qN hj,jd,wS j]
    cases h1:((gt d.Af j).Bm==1)
    ·have:vecC (fun k=>drvI d k d.Aa.length+drvP d k (j+1)) d.Ah.length=vecC (fun k=>drvI d k d.Aa.length+drvP d k j) d.Ah.length:=by
      refine qix (fun k _=>?_)
      rw [qkr,h1];rfl
     rw [this] at hX
     exact hX
    ·obtain ⟨e1,e2⟩:=qjb (c:=fun k=>drvI d k d.Aa.length+drvP d k j) (c':=fun k=>drvI d k d.Aa.length+drvP d k (j+1)) (x:=(gt d.Af j).Bo) (m:=d.Ah.length) hi.2.1 (by omega) (by show drvI _ _ _+drvP _ _ _<_;omega) (fun k _=>by rw [qkr,h1,jA];omega)
     simp only [cond_true,jd,e1,e2]
     exact hX
  have hL5:Ev (fun n=>qc9 (vecC (fun _=>0) d.Ah.length) (vecC (fun k=>drvI d k d.Aa.length+drvP d k d.Af.length) d.Ah.length) n 0) (bif drvB d then .nxt (d.Ah.length:Int) else .ret false):=by
   refine qde ?_ (fun j hj X hX=>Ev.succ ?_)
   ·exact Ev.succ (by simp only [qc9,qki,qj (je _),cond_false];exact .done)
   ·simp only [qc9,qki,qi hj,cond_true,qij hj,jd,bne,qbc,wS j]
    exact Ev.okP1 fun _=>hX
  refine Ev.bind hL1 (Ev.bind hL2 ?_)
  refine Ev.guardB (Ev.or (qj9 (qkj hd.Aa (fun x hx=>hx.Ar))) fun _=>Ev.or (qj9 (qkj hd.Af (fun x hx=>hx.Ar))) fun _=>Ev.neg (qj9 hd.Ah)) fun _=>?_
  rw [qkl (m:=d.Ah.length) (by omega)]
  simp only [jd]
  refine Ev.bind hL3 (Ev.bind hL4 (Ev.bind hL5 ?_))
  cases drvB d<;>exact .done
end Go.Fw


namespace Go.Fw
open Go
set_option maxRecDepth 100000
theorem qto {m k:Nat}:decide ((m:Int)<(k:Int)) = !decide (k≤m):=by rw [jh];simp
theorem qtz {m k:Nat}:decide ((m:Int) > (k:Int)) = !decide (m≤k):=by rw [jh];simp
def treeB (w:qw) (j:Nat):Bool:=bif decide (j=0) then (at0 w.Ai j==-1)&&(at0 w.Bn j==0) else inI (at0 w.Ai j) 0 ((j:Int)-1)
def wireB (w:qw) (s:Int):Bool :=
 lenB w.Ai 1 8&&(((w.Bn.length:Int)==(w.Ai.length:Int))&&(((w.Bk.length:Int)==(w.Ai.length:Int))&&(allN (treeB w) w.Ai.length &&
  ((w.Bn.all fun x=>inI x 0 1000)&&((w.Bk.all fun x=>inI x 0 500)&&(((w.Bg.length:Int)==s)&&(w.Bg.all fun x=>inI x 0 ((w.Ai.length:Int)-1))))))))
theorem qro {w:qw} (hl:w.Ai.length≤1048576) (hr:((w.Bn.length:Int)==(w.Ai.length:Int))=true):Ev (fun n=>qfz n w) (allN (treeB w) w.Ai.length):=by
 rw [beq_iff_eq] at hr
 have hL:Ev (fun n=>qaI w n 0) (bif allN (treeB w) w.Ai.length then .nxt (w.Ai.length:Int) else .ret false):=by
  refine qde ?_ (fun j hj X hX=>Ev.succ ?_)
  ·exact Ev.succ (by simp only [qaI,qj (je _),cond_false];exact .done)
  ·simp only [qaI,qi hj,cond_true,qbN hj,jd,qcm,wS j,bne,qbc]
   unfold treeB
   by_cases h0:j=0
   ·subst h0
    rw [show idx w.Bn (0:Int)=some (at0 w.Bn 0) from qbN (j:=0) (by omega)]
    simp only [jd]
    refine Ev.tt (by simp) (Ev.okP fun _=>Ev.okP1 fun _=>Ev.ff (by simp) hX)
   ·have e1:decide (j=0)=false:=by simp;omega
    have e2:((j:Int)==0)=false:=by simp;omega
    have e3:decide ((j:Int) > 0)=true:=by simp;omega
    rw [e1,e2,e3,qdk (show j≤9223372036854775807 by omega)]
    simp only [cond_false,cond_true]
    exact Ev.okP1 fun _=>hX
 unfold qfz
 refine Ev.bind hL ?_
 cases allN (treeB w) w.Ai.length<;>exact .done
theorem qrE {w:qw} {s:Int} (h:qlb w):Ev (fun n=>qiC n w s) (wireB w s):=by
 have hl:=h.Ai.len
 simp only [qiC,qaR,jd,qcm,qdk (show w.Ai.length≤9223372036854775807 by omega)]
 unfold wireB
 rw [show inI (w.Ai.length:Int) 1 8=lenB w.Ai 1 8 from qo6 (lo:=1) (hi:=8)]
 exact Ev.andP fun _=>Ev.andP fun hr=>Ev.andP fun _=>Ev.and (qro hl hr) fun _=>Ev.and (qfq h.Bn.len) fun _=>Ev.and (qfq h.Bk.len) fun _=>Ev.andP fun _=>Ev.last (qfq h.Bg.len)
theorem qqO {w:qw} {s:Int} (h:qlb w):Ev (fun n=>qiE n w s) (wireB w s):=by
 have hl:=h.Ai.len
 have hsl:=h.Bg.len
 have e:wireB w s=((decide (1≤w.Ai.length)&&(decide (w.Ai.length≤8)&&(((w.Bn.length:Int)==(w.Ai.length:Int))&&(((w.Bk.length:Int)==(w.Ai.length:Int))&&((w.Bg.length:Int)==s)))))&&(allN (fun j=>(inI (at0 w.Bk j) 0 500&&inI (at0 w.Bn j) 0 1000)&&treeB w j) w.Ai.length&&(w.Bg.all fun x=>inI x 0 ((w.Ai.length:Int)-1)))):=by
  unfold wireB lenB
  cases h1:((w.Bn.length:Int)==(w.Ai.length:Int))
  ·simp
  ·cases h2:((w.Bk.length:Int)==(w.Ai.length:Int))
   ·simp
   ·rw [beq_iff_eq] at h1 h2
    rw [qke,qke]
    rw [qhq (p:=fun x=>inI x 0 1000) (d:=0),qhq (p:=fun x=>inI x 0 500) (d:=0),show w.Bn.length=w.Ai.length by omega,show w.Bk.length=w.Ai.length by omega]
    show _=(_&&((allN (fun j=>inI (w.Bk.getD j 0) 0 500) _&&allN (fun j=>inI (w.Bn.getD j 0) 0 1000) _&&_)&&_))
    generalize allN (fun j=>inI (w.Bk.getD j 0) 0 500) w.Ai.length=a1
    generalize allN (fun j=>inI (w.Bn.getD j 0) 0 1000) w.Ai.length=a2
    generalize allN (fun j=>treeB w j) w.Ai.length=a3
    generalize ((w.Bg.length:Int)==s)=a4
    generalize decide (1≤w.Ai.length)=a5
    generalize decide (w.Ai.length≤8)=a6
    generalize (w.Bg.all fun x=>inI x 0 ((w.Ai.length:Int)-1))=a7
    cases a1<;>cases a2<;>cases a3<;>cases a4<;>cases a5<;>cases a6<;>rfl
 rw [e]
 unfold qiE
 refine Ev.guardB ?_ fun hb=>?_
 ·rw [show decide ((w.Ai.length:Int)<1) = !decide (1≤w.Ai.length) from qto (k:=1),show decide ((w.Ai.length:Int) > 8) = !decide (w.Ai.length≤8) from qtz (k:=8)]
  simp only [bne,qbc]
  exact Ev.orBP fun _=>Ev.orBP fun _=>Ev.orBP fun _=>Ev.orBP fun _=>.done
 ·simp only [jf,beq_iff_eq] at hb
  have hL1:Ev (fun n=>qbM w n 0) (bif allN (fun j=>(inI (at0 w.Bk j) 0 500&&inI (at0 w.Bn j) 0 1000)&&treeB w j) w.Ai.length then .nxt (w.Ai.length:Int) else .ret false):=by
   refine qde ?_ (fun j hj X hX=>Ev.succ ?_)
   ·exact Ev.succ (by simp only [qbM,qj (je _),cond_false];exact .done)
   ·simp only [qbM,qi hj,cond_true,qbN hj,qbN (show j<w.Bk.length by omega),qbN (show j<w.Bn.length by omega),jd,qef,wS j,bne,qbc]
    refine Ev.chkT (Ev.orBP fun _=>.done) fun _=>?_
    unfold treeB
    by_cases h0:j=0
    ·subst h0
     refine Ev.tt (by simp) (Ev.okP fun _=>Ev.okP1 fun _=>Ev.ff (by simp) hX)
    ·have e1:decide (j=0)=false:=by simp;omega
     have e2:((j:Int)==0)=false:=by simp;omega
     have e3:decide ((j:Int) > 0)=true:=by simp;omega
     rw [e1,e2,e3,qdk (show j≤9223372036854775807 by omega)]
     simp only [cond_false,cond_true]
     exact Ev.okP1 fun _=>hX
  have hL2:Ev (fun n=>qd2 w n 0) (bif (w.Bg.all fun x=>inI x 0 ((w.Ai.length:Int)-1)) then .nxt (w.Bg.length:Int) else .ret false) :=
   qk9 (fun n=>by simp only [qd2,qj (je _),cond_false]) (fun j hj X hX=>by
    simp only [qd2,qi hj,cond_true,qf6 hj,jd,qef,qdk (show w.Ai.length≤9223372036854775807 by omega),wS j,qbc]
    exact Ev.okP1 fun _=>hX)
  refine Ev.bind hL1 ?_
  cases allN (fun j=>(inI (at0 w.Bk j) 0 500&&inI (at0 w.Bn j) 0 1000)&&treeB w j) w.Ai.length
  ·exact .done
  ·refine Ev.bind hL2 ?_
   cases (w.Bg.all fun x=>inI x 0 ((w.Ai.length:Int)-1))<;>exact .done
instance:Inhabited Tplace:=⟨⟨0,0,0,false⟩⟩
instance:Inhabited Tl05Place:=⟨⟨0,0,0,false⟩⟩
def toSp (p:Tplace):Tl05Place:=⟨p.instance_,p.pin,p.net,p.drives⟩
def plX (i:Nat) (x:qd) (j:Nat):List Tplace:=(List.range j).map fun (k:Nat)=>⟨(i:Int),(k:Int),at0 x.Ah k,decide (k+1=x.Ah.length)⟩
def plI (d:qc) (j:Nat):List Tplace:=(List.range j).flatMap fun (i:Nat)=>plX i (gt d.Aa i) (gt d.Aa i).Ah.length
def plP (d:qc) (j:Nat):List Tplace:=(List.range j).map fun (i:Nat)=>⟨-1,(i:Int),(gt d.Af i).Bo,(gt d.Af i).Bm==1⟩
def places (d:qc):List Tplace:=plI d d.Aa.length++plP d d.Af.length
theorem qpJ {i:Nat} {x:qd} {j:Nat}:plX i x (j+1)=plX i x j++[⟨(i:Int),(j:Int),at0 x.Ah j,decide (j+1=x.Ah.length)⟩]:=by
 unfold plX;rw [List.range_succ,jK];rfl
theorem qjN {d:qc} {j:Nat}:plI d (j+1)=plI d j++plX j (gt d.Aa j) (gt d.Aa j).Ah.length:=by
 unfold plI;rw [List.range_succ,List.flatMap_append];simp
theorem qpx {d:qc} {j:Nat}:plP d (j+1)=plP d j++[⟨-1,(j:Int),(gt d.Af j).Bo,(gt d.Af j).Bm==1⟩]:=by
 unfold plP;rw [List.range_succ,jK];rfl
theorem qmM {i:Nat} {x:qd} {j:Nat}:(plX i x j).length=j:=by simp [plX]
theorem qmR {d:qc} {j:Nat}:(plP d j).length=j:=by simp [plP]
structure smallD (d:qc):Prop where
 ni:d.Aa.length≤14
 nn:d.Ah.length≤30
 np:d.Af.length≤8
 nx:∀ i,i<d.Aa.length→2≤(gt d.Aa i).Ah.length∧(gt d.Aa i).Ah.length≤5
theorem qbr {l:qn} {d:qc} (h:designB l d=true):smallD d:=by
 unfold designB hasNamesB libB at h
 simp only [jf,decide_eq_true_eq] at h
 obtain ⟨⟨⟨hc,_⟩,⟨h1,h2,h3⟩,_⟩,hI,_⟩:=h
 refine ⟨h1,h2,h3,fun i hi=>?_⟩
 rw [qhw,qap] at hI hc
 have:=hI i hi
 unfold instB at this
 simp only [jf,qbO,beq_iff_eq] at this
 have h5:=qgU (qkV (hc (gt d.Aa i).Bl.toNat (by omega)))
 omega
theorem qk7 {d:qc} (h:smallD d) {j:Nat} (hj:j≤d.Aa.length):(plI d j).length≤5*j:=by
 induction j with
 | zero=>exact je _
 | succ j ih =>
  rw [qjN,jm,qmM]
  have:=ih (by omega)
  have:=h.nx j (by omega)
  omega
theorem qdQ {d:qc} (h:smallD d):(places d).length≤78:=by
 unfold places
 rw [jm,qmR]
 have:=qk7 h (je _)
 have:=h.ni
 have:=h.np
 omega
theorem qkn {d:qc} (h:smallD d):Ev (fun n=>qbw n d) (places d):=by
 have h1:=h.ni
 have h2:=h.np
 have hL2:∀ i,i<d.Aa.length→∀ pre:List Tplace,pre.length≤100→Ev (fun n=>qa6 (i:Int) (gt d.Aa i) n pre 0) (pre++plX i (gt d.Aa i) (gt d.Aa i).Ah.length,((gt d.Aa i).Ah.length:Int)):=by
  intro i hi pre hp
  have h5:=h.nx i hi
  have:=loopF (Lf:=qa6 (i:Int) (gt d.Aa i)) (S:=fun j=>pre++plX i (gt d.Aa i) j) (len:=(gt d.Aa i).Ah.length) (fin:=(pre++plX i (gt d.Aa i) (gt d.Aa i).Ah.length,((gt d.Aa i).Ah.length:Int))) (fun n=>by
    simp only [qa6,qj (je _),cond_false])
   (fun j hj X hX=>by
    have hc:(pre++plX i (gt d.Aa i) j).length+[(⟨(i:Int),(j:Int),at0 (gt d.Aa i).Ah j,decide (j+1=(gt d.Aa i).Ah.length)⟩:Tplace)].length≤2147483648:=by
     rw [jm,qmM];simp;omega
    simp only [qa6,qi hj,cond_true,qbN hj,jd,lastE hj (show (gt d.Aa i).Ah.length≤1048576 by omega),qdT hc,jx,←qpJ,wS j]
    exact hX)
  simpa [plX] using this
 have hL1:Ev (fun n=>qa8 d n ([]:List Tplace) 0) (plI d d.Aa.length,(d.Aa.length:Int)):=by
  refine loopF (Lf:=qa8 d) (S:=fun j=>plI d j) (len:=d.Aa.length) (fun n=>?_) (fun j hj X hX=>?_)
  ·simp only [qa8,qj (je _),cond_false]
  ·simp only [qa8,qi hj,cond_true,qN hj,jd,wS j]
   refine Ev.bind (hL2 j hj _ (by have:=qk7 h (Nat.le_of_lt hj);omega)) ?_
   rw [←qjN]
   exact hX
 have hL3:Ev (fun n=>qa5 d n (plI d d.Aa.length) 0) (places d,(d.Af.length:Int)):=by
  have:=loopF (Lf:=qa5 d) (S:=fun j=>plI d d.Aa.length++plP d j) (len:=d.Af.length) (fin:=(places d,(d.Af.length:Int))) (fun n=>by
    simp only [qa5,qj (je _),cond_false];rfl)
   (fun j hj X hX=>by
    have hc:(plI d d.Aa.length++plP d j).length+[(⟨-1,(j:Int),(gt d.Af j).Bo,(gt d.Af j).Bm==1⟩:Tplace)].length≤2147483648:=by
     rw [jm,qmR];have:=qk7 h (je _);simp;omega
    simp only [qa5,qi hj,cond_true,qN hj,jd,qdT hc,jx,←qpx,wS j]
    exact hX)
  simpa [plP] using this
 unfold qbw
 exact Ev.bind hL1 (Ev.bind hL3 .done)
theorem qkW {d:qc} (h:smallD d):Ev (fun n=>qd6 n d) ((places d).map toSp):=by
 have h1:=h.ni
 have h2:=h.np
 have hL2:∀ i,i<d.Aa.length→∀ pre:List Tplace,pre.length≤100→Ev (fun n=>qbI (i:Int) (gt d.Aa i) n (pre.map toSp) 0) ((pre++plX i (gt d.Aa i) (gt d.Aa i).Ah.length).map toSp,((gt d.Aa i).Ah.length:Int)):=by
  intro i hi pre hp
  have h5:=h.nx i hi
  have:=loopF (Lf:=qbI (i:Int) (gt d.Aa i)) (S:=fun j=>(pre++plX i (gt d.Aa i) j).map toSp) (len:=(gt d.Aa i).Ah.length) (fin:=((pre++plX i (gt d.Aa i) (gt d.Aa i).Ah.length).map toSp,((gt d.Aa i).Ah.length:Int))) (fun n=>by
    simp only [qbI,qj (je _),cond_false])
   (fun j hj X hX=>by
    have hc:((pre++plX i (gt d.Aa i) j).map toSp).length+[(⟨(i:Int),(j:Int),at0 (gt d.Aa i).Ah j,decide (j+1=(gt d.Aa i).Ah.length)⟩:Tl05Place)].length≤2147483648:=by
     rw [jE,jm,qmM];simp;omega
    simp only [qbI,qi hj,cond_true,qbN hj,jd,lastE hj (show (gt d.Aa i).Ah.length≤1048576 by omega),qdT hc,wS j]
    rw [qpJ,←jx,jK] at hX
    exact hX)
  simpa [plX] using this
 have hL1:Ev (fun n=>qbQ d n ([]:List Tl05Place) 0) ((plI d d.Aa.length).map toSp,(d.Aa.length:Int)):=by
  refine loopF (Lf:=qbQ d) (S:=fun j=>(plI d j).map toSp) (len:=d.Aa.length) (fun n=>?_) (fun j hj X hX=>?_)
  ·simp only [qbQ,qj (je _),cond_false]
  ·simp only [qbQ,qi hj,cond_true,qN hj,jd,wS j]
   refine Ev.bind (hL2 j hj _ (by have:=qk7 h (Nat.le_of_lt hj);omega)) ?_
   rw [←qjN]
   exact hX
 have hL3:Ev (fun n=>qbL d n ((plI d d.Aa.length).map toSp) 0) ((places d).map toSp,(d.Af.length:Int)):=by
  have:=loopF (Lf:=qbL d) (S:=fun j=>(plI d d.Aa.length++plP d j).map toSp) (len:=d.Af.length) (fin:=((places d).map toSp,(d.Af.length:Int))) (fun n=>by
    simp only [qbL,qj (je _),cond_false];rfl)
   (fun j hj X hX=>by
    have hc:((plI d d.Aa.length++plP d j).map toSp).length+[(⟨-1,(j:Int),(gt d.Af j).Bo,(gt d.Af j).Bm==1⟩:Tl05Place)].length≤2147483648:=by
     rw [jE,jm,qmR];have:=qk7 h (je _);simp;omega
    simp only [qbL,qi hj,cond_true,qN hj,jd,qdT hc,wS j]
    rw [qpx,←jx,jK] at hX
    exact hX)
  simpa [plP] using this
 unfold qd6
 exact Ev.bind hL1 (Ev.bind hL3 .done)
def snkQ (d:qc) (k:Int) (i:Nat):Bool:=((gt (places d) i).net==k)&&!(gt (places d) i).drives
def sinksL (d:qc) (k:Int) (j:Nat):List Int:=((List.range j).filter (snkQ d k)).map fun (i:Nat)=>(i:Int)
def snkN (d:qc) (k:Int):Nat:=cntP (snkQ d k) (places d).length
theorem qhm {d:qc} {k:Int} {j:Nat}:sinksL d k (j+1)=sinksL d k j++(bif snkQ d k j then [(j:Int)] else []):=by
 unfold sinksL
 rw [List.range_succ,List.filter_append,jK]
 congr 1
 cases h:snkQ d k j<;>simp [h]
theorem qgO {d:qc} {k:Int} {j:Nat}:(sinksL d k j).length=cntP (snkQ d k) j:=by
 induction j with
 | zero=>rfl
 | succ j ih =>
  rw [qhm,jm,ih]
  show _=cntP (snkQ d k) j+_
  congr 1
  cases snkQ d k j<;>rfl
theorem qqm {α β:Type} [Inhabited α] [Inhabited β] {xs:List α} {g:α→β} {j:Nat} (h:j<xs.length):gt (xs.map g) j=g (gt xs j):=by
 rw [qjC (by simpa using h),qjC h];simp
theorem qp8 {d:qc} {k:Int} (h:smallD d):Ev (fun n=>qgW n d k) (sinksL d k (places d).length):=by
 have hl:=qdQ h
 have hL:Ev (fun n=>qbz k ((places d).map toSp) n ([]:List Int) 0) (sinksL d k (places d).length,((places d).length:Int)):=by
  refine loopF (Lf:=qbz k ((places d).map toSp)) (S:=fun j=>sinksL d k j) (len:=(places d).length) (fun n=>?_) (fun j hj X hX=>?_)
  ·simp only [qbz,jE,qj (je _),cond_false]
  ·have hj':j<((places d).map toSp).length:=by simpa using hj
   have hc:(sinksL d k j).length+[(j:Int)].length≤2147483648:=by
    rw [qgO]
    have:cntP (snkQ d k) j≤j:=qe1
    simp;omega
   simp only [qbz,qi hj',cond_true,qN hj',qqm hj,jd,wS j]
   rw [show ∀ p:Tplace,(toSp p).net=p.net from fun _=>rfl,show ∀ p:Tplace,(toSp p).drives=p.drives from fun _=>rfl]
   refine Ev.bind (b:=snkQ d k j) (Ev.andP fun _=>.done) ?_
   rw [qhm] at hX
   cases hq:snkQ d k j
   ·rw [hq] at hX
    simp only [cond_false,List.append_nil] at hX ⊢
    exact hX
   ·rw [hq] at hX
    simp only [cond_true,qdT hc,jd] at hX ⊢
    exact hX
 unfold qgW
 exact Ev.bind (qkW h) (Ev.bind hL .done)
theorem qkS {l:qn} {d:qc} (h:designB l d=true) {i:Nat} (hi:i<(places d).length):0≤(gt (places d) i).net∧(gt (places d) i).net<d.Ah.length:=by
 unfold designB at h
 simp only [jf] at h
 obtain ⟨_,hI,hP,_⟩:=h
 rw [qhw,qap] at hI hP
 have hm:gt (places d) i ∈ places d:=by rw [qjC hi];exact js hi
 generalize gt (places d) i=p at hm
 unfold places at hm
 rcases List.mem_append.1 hm with hm|hm
 ·unfold plI at hm
  obtain ⟨i,hi,hm⟩:=List.mem_flatMap.1 hm
  unfold plX at hm
  obtain ⟨k,hk,rfl⟩:=List.mem_map.1 hm
  have:=hI i (List.mem_range.1 hi)
  unfold instB at this
  simp only [jf] at this
  have h3:=this.2.2
  rw [qhq (d:=0),qap] at h3
  have h4:=h3 k (List.mem_range.1 hk)
  unfold netB at h4
  rw [qbO] at h4
  show 0≤at0 _ _∧at0 _ _<_
  unfold at0
  omega
 ·unfold plP at hm
  obtain ⟨i,hi,rfl⟩:=List.mem_map.1 hm
  have:=hP i (List.mem_range.1 hi)
  unfold portB netB at this
  simp only [jf,qbO] at this
  show 0≤(gt d.Af i).Bo∧(gt d.Af i).Bo<_
  omega
def blockB (b:qk):Bool:=(designB b.Au b.Ab&&((b.Ac.length:Int)==(b.Ab.Ah.length:Int)))&&allN (fun j=>wireB (gt b.Ac j) (snkN b.Ab (j:Int))) b.Ac.length
theorem qqo {b:qk} (h:qj3 b):Ev (fun n=>qhZ n b) (blockB b):=by
 have hwl:=h.Ac.len
 unfold qhZ blockB
 refine Ev.guardB (Ev.or (qps h.Au h.Ab) fun _=>.done) fun hb=>?_
 rw [jf,beq_iff_eq] at hb
 obtain ⟨hd,hw⟩:=hb
 have hs:=qbr hd
 have hl:=qdQ hs
 have hn:=hs.nn
 rw [qkl (m:=b.Ac.length) (by omega)]
 simp only [jd]
 have hL1:Ev (fun n=>qb1 (places b.Ab) n (vecC (fun _=>0) b.Ac.length) 0) (vecC (fun k=>snkN b.Ab (k:Int)) b.Ac.length,((places b.Ab).length:Int)):=by
  refine loopF (Lf:=qb1 (places b.Ab)) (S:=fun j=>vecC (fun k=>cntP (snkQ b.Ab (k:Int)) j) b.Ac.length) (len:=(places b.Ab).length) (fun n=>?_) (fun j hj X hX=>?_)
  ·simp only [qb1,qj (je _),cond_false];rfl
  ·simp only [qb1,qi hj,cond_true,qN hj,jd,wS j]
   obtain ⟨n0,n1⟩:=qkS hd hj
   cases h1:(gt (places b.Ab) j).drives
   ·have hc:cntP (snkQ b.Ab (((gt (places b.Ab) j).net.toNat:Nat):Int)) j≤j:=qe1
    obtain ⟨e1,e2⟩:=qjb (c:=fun k=>cntP (snkQ b.Ab (k:Int)) j) (c':=fun k=>cntP (snkQ b.Ab (k:Int)) (j+1)) (x:=(gt (places b.Ab) j).net) (m:=b.Ac.length) n0 (by omega) (by show cntP _ _<_;omega) (fun k _=>by
     show cntP _ j+(bif snkQ b.Ab (k:Int) j then 1 else 0)=_
     unfold snkQ
     rw [h1,Bool.not_false,Bool.and_true])
    simp only [Bool.not_false,cond_true,jd,e1,e2]
    exact hX
   ·have:vecC (fun k=>cntP (snkQ b.Ab (k:Int)) (j+1)) b.Ac.length=vecC (fun k=>cntP (snkQ b.Ab (k:Int)) j) b.Ac.length:=by
     refine qix (fun k _=>?_)
     show cntP _ j+(bif snkQ b.Ab (k:Int) j then 1 else 0)=_
     unfold snkQ
     rw [h1,Bool.not_true,Bool.and_false];rfl
    rw [this] at hX
    exact hX
 have hL2:Ev (fun n=>qdu b (vecC (fun k=>snkN b.Ab (k:Int)) b.Ac.length) n 0) (bif allN (fun j=>wireB (gt b.Ac j) (snkN b.Ab (j:Int))) b.Ac.length then .nxt (b.Ac.length:Int) else .ret false):=by
  refine qde ?_ (fun j hj X hX=>Ev.succ ?_)
  ·exact Ev.succ (by simp only [qdu,qj (je _),cond_false];exact .done)
  ·simp only [qdu,qi hj,cond_true,qN hj,qij hj,jd,wS j]
   exact Ev.chk1 (qrE (qjT h.Ac hj)) fun _=>hX
 refine Ev.bind (qkn hs) (Ev.bind hL1 (Ev.bind hL2 ?_))
 cases allN (fun j=>wireB (gt b.Ac j) (snkN b.Ab (j:Int))) b.Ac.length<;>exact .done
theorem qp6 {b:qk} (h:qj3 b):Ev (fun n=>qhY n b) (blockB b):=by
 have hwl:=h.Ac.len
 unfold qhY blockB
 refine Ev.guardB (Ev.or (qpa h.Au h.Ab) fun _=>.done) fun hb=>?_
 rw [jf] at hb
 have hs:=qbr hb.1
 have hL:Ev (fun n=>qdy b n 0) (bif allN (fun j=>wireB (gt b.Ac j) (snkN b.Ab (j:Int))) b.Ac.length then .nxt (b.Ac.length:Int) else .ret false):=by
  refine qde ?_ (fun j hj X hX=>Ev.succ ?_)
  ·exact Ev.succ (by simp only [qdy,qj (je _),cond_false];exact .done)
  ·simp only [qdy,qi hj,cond_true,qN hj,jd,wS j]
   refine Ev.bind (qp8 hs) ?_
   rw [qgO]
   exact Ev.chk1 (qqO (qjT h.Ac hj)) fun _=>hX
 refine Ev.bind hL ?_
 cases allN (fun j=>wireB (gt b.Ac j) (snkN b.Ab (j:Int))) b.Ac.length<;>exact .done
end Go.Fw
