/- By a program of mine (gen.py): for each function a plain function and the proof that the code computes it. -/
import Derived.Test.YtpblhdihpnjoeaaGreatDoorA2
import Derived.Test.YtpblhdihpnjoeaaGreatDoorFw36
open Option renaming bind_some → jd
open Nat renaming le_refl → je, mul_le_mul_right → jn, lt_of_lt_of_le → jp, le_of_ble_eq_true → jq, succ_mul → jB, zero_add → jL
open Bool renaming and_eq_true → jf, eq_iff_iff → ji, not_eq_true' → jx, true_and → jC
open Go.Result renaming andThen_ok → jg
open List renaming getElem?_eq_getElem → jh, length_append → jm, mem_cons_of_mem → jo, getElem?_append_left → jr, mem_cons_self → js, getElem_mem → jt, getElem?_take → ju, getElem?_append_right → jv, getElem?_toArray → jw, append_assoc → jy, eq_nil_of_length_eq_zero → jA, length_singleton → jD, size_toArray → jE, getD_eq_getElem?_getD → jF, length_map → jG, getElem_of_mem → jH, mem_of_getElem? → jI, not_mem_nil → jJ, take_length → jK, mem_cons → jM
open Go.Sem renaming run_bind → jj, run_pure → jk
open Int renaming toNat_natCast → jz

namespace Go.Fw
open Go Go.Proofs
open Go.RowKit (Below)
set_option maxRecDepth 100000
set_option maxHeartbeats 1600000
variable {n:Nat} {w:World} {cs1 cs2 cs3 cs4 cs5 cs6 cs7 cs8 cs9:List Value}
def qbW (l:ql) (i1:Int):Nat→Int→Option (Flow Bool Int)
 | 0,_=>none
 | n+1,i2 =>
  bif decide (i2<i1) then
   (idx l.Ak i2).bind fun y2 =>
   (idx l.Ak i1).bind fun y3 =>
   bif (y2.Ar.toList==y3.Ar.toList) then some (.ret false) else
   qbW l i1 n (W64 (i2+1))
  else
   some (.nxt i2)
def qbR (l:ql):Nat→Int→Option (Flow Bool Int)
 | 0,_=>none
 | n+1,i1 =>
  bif decide (i1<(l.Ak.length:Int)) then
   (idx l.Ak i1).bind fun y1 =>
   (qhm n y1).bind fun r1 =>
   bif (!r1) then some (.ret false) else
   (qbW l i1 n 0).bind fun o=>match o with
   | .ret r=>some (.ret r)
   | .nxt _ =>
    qbR l n (W64 (i1+1))
  else
   some (.nxt i1)
def qft (n:Nat) (l:ql):Option Bool :=
 (qbR l n 0).bind fun o=>match o with
 | .ret r=>some r
 | .nxt _ =>
  some (decide ((l.Ak.length:Int)≤8))
theorem qjW {l:ql} (ha1:GoT.R w (old w) l cs1) {r:Bool} (hF:qft n l=some r):RetV Tryz.prog 208 [GoT.v ql cs1] w r:=by
 obtain ⟨p1,k1,rfl,s1⟩:=qaQ ha1
 refine zV 41 Tryz.func208 rfl fun h=>zSR (qt h rfl rfl fun w1 bb1 h=>X0 7 rfl ?_)
 obtain ⟨o1,hF,hK1⟩:=qg hF
 refine qm (rL (fun m e w'=>∃ (i1:Int),qbR l m i1=some o1∧e=[(1,.pointer (some ⟨bb1,0,none⟩)),(3,.int .i64 i1)]∧SH w w' [Ch.box bb1 [.slice p1 l.Ak.length k1] 41]) n ⟨_,hF,rfl,h⟩ rfl ?_)
 rintro m1 e1 w2 ⟨i1,hF,rfl,h⟩
 rcases m1 with _|m1
 ·cases hF
 refine X1 9 0 h rfl (qf rfl hF ?_ ?_)<;>intro hF
 ·refine X1 9 0 h rfl ?_
  obtain ⟨y1,hy1,hF,he1,b1,_,q1,cs2,hp1,hq1,hr1,hc2⟩:=s1.ix hF
  obtain ⟨p2,k2,p3,k3,p4,k4,rfl,s2,s3,s4⟩:=qN hr1
  refine zxe hp1 hq1 he1 rfl (zc 0 (hc2.below h.below) rfl (zcB h hF (qlm (qgP y1 (h.oldS s2) (h.oldS s3) (h.oldS s4))) rfl fun r1 w3 h hF=>X0 2 rfl (qf rfl hF ?_ ?_)))<;>intro hF
  ·refine X0 4 rfl ?_
   obtain rfl:=qa hF;replace hF:=hK1
   exact rb h hF rfl
  refine X0 5 rfl ?_
  obtain ⟨o2,hF,hK2⟩:=qg hF
  refine qm (rL (fun m e w'=>∃ (i2:Int),qbW l i1 m i2=some o2∧e=[(1,.pointer (some ⟨bb1,0,none⟩)),(3,.int .i64 i1),(4,.int .i64 i2)]∧SH w w' [Ch.box bb1 [.slice p1 l.Ak.length k1] 41]) m1 ⟨_,hF,rfl,h⟩ rfl ?_)
  rintro m2 e2 w4 ⟨i2,hF,rfl,h⟩
  rcases m2 with _|m2
  ·cases hF
  refine X0 7 rfl (qf rfl hF ?_ ?_)<;>intro hF
  ·refine X0 4 rfl (rD (Y1 2 0 h rfl ?_))
   refine zd1 rfl ?_
   obtain ⟨y2,hy2,hF,he2,b2,_,q2,cs3,hp2,hq2,hr3,hc5⟩:=s1.ix hF
   obtain ⟨p5,k5,p6,k6,p7,k7,rfl,s5,s6,s7⟩:=qN hr3
   refine zdxe hp2 hq2 he2 rfl (zd1 rfl (zdc 0 (hc5.below h.below) rfl (Y1 2 0 h rfl ?_)))
   refine zd1 rfl ?_
   obtain ⟨y3,hy3,hF,he3,b3,_,q3,cs4,hp3,hq3,hr4,hc6⟩:=s1.ix hF
   obtain ⟨p8,k8,p9,k9,p10,k10,rfl,s8,s9,s10⟩:=qN hr4
   refine zdxe hp3 hq3 he3 rfl (zd1 rfl (zdc 0 (hc6.below h.below) rfl (zd1 rfl (dN h fun w5 h=>qf rfl hF ?_ ?_))))<;>intro hF
   ·refine X0 4 rfl ?_
    obtain rfl:=qa hF;replace hF:=hK2
    obtain rfl:=qa hF;replace hF:=hK1
    exact rb h hF rfl
   exact X0 7 rfl (rK ⟨_,hF,rfl,h⟩ rfl)
  refine qr rfl ?_
  obtain rfl:=qa hF;replace hF:=hK2
  exact X0 6 rfl (rK ⟨_,hF,rfl,h⟩ rfl)
 refine qr rfl ?_
 obtain rfl:=qa hF;replace hF:=hK1
 exact X1 8 0 h rfl (rb h hF rfl)
def qch (a_1:qb) (y1:qe):Nat→Int→Option (Flow Bool Int)
 | 0,_=>none
 | n+1,i2 =>
  bif decide (i2<(y1.Ah.length:Int)) then
   (idx y1.Ah i2).bind fun y2 =>
   (qX n y2 0 (W64 ((a_1.Ah.length:Int)-1))).bind fun r1 =>
   bif (!r1) then some (.ret false) else
   qch a_1 y1 n (W64 (i2+1))
  else
   some (.nxt i2)
def qcl (a_1:qb):Nat→Int→Option (Flow Bool Int)
 | 0,_=>none
 | n+1,i3 =>
  bif decide (i3<(a_1.Af.length:Int)) then
   (idx a_1.Af i3).bind fun y4 =>
   (qX n y4.Bm 1 2).bind fun r3 =>
   bif (!r3) then some (.ret false) else
   (idx a_1.Af i3).bind fun y5 =>
   (qX n y5.Bo 0 (W64 ((a_1.Ah.length:Int)-1))).bind fun r4 =>
   bif (!r4) then some (.ret false) else
   qcl a_1 n (W64 (i3+1))
  else
   some (.nxt i3)
def qcf (a_0:ql) (a_1:qb):Nat→Int→Option (Flow Bool Int)
 | 0,_=>none
 | n+1,i1 =>
  bif decide (i1<(a_1.Aa.length:Int)) then
   (idx a_1.Aa i1).bind fun y1 =>
   (
    (qX n y1.Bl 0 (W64 ((a_0.Ak.length:Int)-1))).bind fun r2 =>
    bif (!r2) then some true else
    (idx a_0.Ak y1.Bl).bind fun y3 =>
    some ((y1.Ah.length:Int) != (y3.Ap.length:Int))).bind fun b2 =>
   bif b2 then some (.ret false) else
   (qch a_1 y1 n 0).bind fun o=>match o with
   | .ret r=>some (.ret r)
   | .nxt _ =>
    qcf a_0 a_1 n (W64 (i1+1))
  else
   some (.nxt i1)
def qfO (n:Nat) (a_0:ql) (a_1:qb):Option Bool :=
 (qcf a_0 a_1 n 0).bind fun o=>match o with
 | .ret r=>some r
 | .nxt _ =>
  (qcl a_1 n 0).bind fun o=>match o with
  | .ret r=>some r
  | .nxt _ =>
   some true
theorem qke {a_0:ql} {a_1:qb} (ha1:GoT.R w (old w) a_0 cs1) (ha2:GoT.R w (old w) a_1 cs2) {r:Bool} (hF:qfO n a_0 a_1=some r):RetV Tryz.prog 209 [GoT.v ql cs1,GoT.v qb cs2] w r:=by
 obtain ⟨p1,k1,rfl,s1⟩:=qaQ ha1
 obtain ⟨p2,k2,p3,k3,p4,k4,rfl,s2,s3,s4⟩:=qW ha2
 refine zV 90 Tryz.func209 rfl fun h=>zSR (qt h rfl rfl fun w1 bb1 h=>qt h rfl rfl fun w2 bb2 h=>X1 14 0 h rfl ?_)
 obtain ⟨o1,hF,hK1⟩:=qg hF
 refine qm (rL (fun m e w'=>∃ (i1:Int),qcf a_0 a_1 m i1=some o1∧e=[(2,.pointer (some ⟨bb1,0,none⟩)),(3,.pointer (some ⟨bb2,0,none⟩)),(5,.int .i64 (a_1.Ah.length:Int)),(6,.int .i64 i1)]∧SH w w' [Ch.box bb2 (qay a_1 p2 p3 p4 k2 k3 k4) 45,Ch.box bb1 [.slice p1 a_0.Ak.length k1] 41]) n ⟨_,hF,rfl,h⟩ rfl ?_)
 rintro m1 e1 w3 ⟨i1,hF,rfl,h⟩
 rcases m1 with _|m1
 ·cases hF
 refine X1 9 0 h rfl (qf rfl hF ?_ ?_)<;>intro hF
 ·refine X1 8 0 h rfl ?_
  obtain ⟨y1,hy1,hF,he1,b1,_,q1,cs3,hp1,hq1,hr1,hc2⟩:=s2.ix hF
  obtain ⟨p5,k5,rfl,s5⟩:=qI hr1
  refine zxe hp1 hq1 he1 rfl (zc 0 (hc2.below h.below) rfl (qv qc h rfl rfl rfl fun w4 bb3 h=>zs 0 h rfl fun w5 h=>zNSS ?_))
  obtain ⟨KF1,hKF1,o3,hF,hK3⟩:=bindE hF
  refine qcy (fun e w'=>∃ (b2:Bool),KF1 b2=some o1∧e=[(2,.pointer (some ⟨bb1,0,none⟩)),(3,.pointer (some ⟨bb2,0,none⟩)),(5,.int .i64 (a_1.Ah.length:Int)),(6,.int .i64 i1),(7,.pointer (some ⟨bb3,0,none⟩)),(46,.bool b2)]∧SH w w' [Ch.box bb3 (qf6 y1 p5 k5) 184,Ch.box bb2 (qay a_1 p2 p3 p4 k2 k3 k4) 45,Ch.box bb1 [.slice p1 a_0.Ak.length k1] 41]) ?_ ?_
  ·refine rD (Y1 2 0 h rfl ?_)
   refine Y1 2 2 h rfl ?_
   refine zd2 rfl ?_
   obtain ⟨r2,hr4,hF⟩:=qg hF
   refine qbn r2 (vsB _) (cB 73 rfl) (fun _ hb=>qP  hr4) rfl rfl rfl rfl (zd2 rfl (qa2 (t:=33) hF rfl ?_ ?_))<;>intro hF
   ·refine Y0 13 rfl (dN h fun w8 h=>?_)
    obtain rfl:=qa hF
    exact rG ⟨_,hK3,rfl,h⟩ rfl
   refine Y1 4 0 h rfl ?_
   refine Y1 6 2 h rfl ?_
   refine Y1 4 0 h rfl ?_
   refine Y0 1 rfl ?_
   obtain ⟨y3,hy3,hF,he3,b4,_,q3,cs5,hp3,hq3,hr5,hc7⟩:=s1.ix hF
   obtain ⟨p6,k6,p7,k7,p8,k8,rfl,s6,s7,s8⟩:=qN hr5
   refine zdxe hp3 hq3 he3 rfl (Y0 3 rfl (zdc 2 (hc7.below h.below) rfl (Y0 5 rfl (dN h fun w9 h=>?_))))
   obtain rfl:=qa hF
   exact rG ⟨_,hK3,rfl,h⟩ rfl
  rintro e3 w10 ⟨b2,hF,rfl,h⟩
  subst hKF1
  refine qf rfl hF ?_ ?_<;>intro hF
  ·refine X0 4 rfl ?_
   obtain rfl:=qa hF;replace hF:=hK1
   exact rb h hF rfl
  refine X0 5 rfl ?_
  obtain ⟨o2,hF,hK2⟩:=qg hF
  refine qm (rL (fun m e w'=>∃ (i2:Int),qch a_1 y1 m i2=some o2∧e=[(2,.pointer (some ⟨bb1,0,none⟩)),(3,.pointer (some ⟨bb2,0,none⟩)),(5,.int .i64 (a_1.Ah.length:Int)),(6,.int .i64 i1),(7,.pointer (some ⟨bb3,0,none⟩)),(8,.int .i64 i2)]∧SH w w' [Ch.box bb3 (qf6 y1 p5 k5) 184,Ch.box bb2 (qay a_1 p2 p3 p4 k2 k3 k4) 45,Ch.box bb1 [.slice p1 a_0.Ak.length k1] 41]) m1 ⟨_,hF,rfl,h⟩ rfl ?_)
  rintro m2 e2 w6 ⟨i2,hF,rfl,h⟩
  rcases m2 with _|m2
  ·cases hF
  refine X1 9 0 h rfl (qf rfl hF ?_ ?_)<;>intro hF
  ·refine X1 8 0 h rfl ?_
   obtain ⟨y2,hy2,hF,he2,b3,_,q2,cs4,hp2,hq2,rfl,hc5⟩:=s5.ix hF
   refine zxe hp2 hq2 he2 rfl (zc 0 (hc5.below h.below) rfl (zp2 rfl (zcB h hF qP rfl fun r1 w7 h hF=>X0 2 rfl (qf rfl hF ?_ ?_))))<;>intro hF
   ·refine X0 4 rfl ?_
    obtain rfl:=qa hF;replace hF:=hK2
    obtain rfl:=qa hF;replace hF:=hK1
    exact rb h hF rfl
   exact X0 7 rfl (rK ⟨_,hF,rfl,h⟩ rfl)
  refine qr rfl ?_
  obtain rfl:=qa hF;replace hF:=hK2
  refine X0 6 rfl ?_
  replace h:=h.pick [1,2] rfl
  exact rK ⟨_,hF,rfl,h⟩ rfl
 refine qr rfl ?_
 obtain rfl:=qa hF;replace hF:=hK1
 refine X0 5 rfl ?_
 obtain ⟨o4,hF,hK4⟩:=qg hF
 refine qm ?_
 replace h:=h.pick [0] rfl
 refine rL (fun m e w'=>∃ (i3:Int),qcl a_1 m i3=some o4∧e=[(3,.pointer (some ⟨bb2,0,none⟩)),(5,.int .i64 (a_1.Ah.length:Int)),(9,.int .i64 i3)]∧SH w w' [Ch.box bb2 (qay a_1 p2 p3 p4 k2 k3 k4) 45]) n ⟨_,hF,rfl,h⟩ rfl ?_
 rintro m3 e4 w11 ⟨i3,hF,rfl,h⟩
 rcases m3 with _|m3
 ·cases hF
 refine X1 9 0 h rfl (qf rfl hF ?_ ?_)<;>intro hF
 ·refine X1 8 0 h rfl ?_
  obtain ⟨y4,hy4,hF,he4,b5,_,q4,cs6,hp4,hq4,hr6,hc9⟩:=s4.ix hF
  obtain rfl:=qau hr6
  refine zxe hp4 hq4 he4 rfl (zp1 rfl (zc 1 (hc9.below h.below) rfl (zcB h hF qP rfl fun r3 w12 h hF=>zp2 rfl (qd (t:=78) hF rfl ?_ ?_))))<;>intro hF
  ·refine X0 12 rfl (qbH rfl rfl (X0 4 rfl ?_))
   obtain rfl:=qa hF;replace hF:=hK4
   exact rb h hF rfl
  refine X1 7 0 h rfl ?_
  obtain ⟨y5,hy5,hF,he5,b6,_,q5,cs7,hp5,hq5,hr8,hc10⟩:=s4.ix hF
  obtain rfl:=qau hr8
  refine zxe hp5 hq5 he5 rfl (X0 3 rfl (zc 2 (hc10.below h.below) rfl (X0 5 rfl (zcB h hF qP rfl fun r4 w13 h hF=>X0 4 rfl (qf rfl hF ?_ ?_)))))<;>intro hF
  ·refine X0 4 rfl ?_
   obtain rfl:=qa hF;replace hF:=hK4
   exact rb h hF rfl
  exact X0 7 rfl (rK ⟨_,hF,rfl,h⟩ rfl)
 refine qr rfl ?_
 obtain rfl:=qa hF;replace hF:=hK4
 exact X0 4 rfl (rb h hF rfl)
def qco (list:(List ByteArray)) (i1:Int):Nat→Int→Option (Flow Bool Int)
 | 0,_=>none
 | n+1,i2 =>
  bif decide (i2<i1) then
   (idx list i2).bind fun y2 =>
   (idx list i1).bind fun y3 =>
   bif (y2.toList==y3.toList) then some (.ret false) else
   qco list i1 n (W64 (i2+1))
  else
   some (.nxt i2)
def qcq (list:(List ByteArray)):Nat→Int→Option (Flow Bool Int)
 | 0,_=>none
 | n+1,i1 =>
  bif decide (i1<(list.length:Int)) then
   (idx list i1).bind fun y1 =>
   (qev n y1).bind fun r1 =>
   bif (!r1) then some (.ret false) else
   (qco list i1 n 0).bind fun o=>match o with
   | .ret r=>some (.ret r)
   | .nxt _ =>
    qcq list n (W64 (i1+1))
  else
   some (.nxt i1)
def qdO (n:Nat) (list:(List ByteArray)):Option Bool :=
 (qcq list n 0).bind fun o=>match o with
 | .ret r=>some r
 | .nxt _ =>
  some true
theorem qfw {list:(List ByteArray)} (ha1:GoT.R w (old w) list cs1) {r:Bool} (hF:qdO n list=some r):RetV Tryz.prog 210 [GoT.v (List ByteArray) cs1] w r:=by
 obtain ⟨p1,k1,rfl,s1⟩:=ha1
 refine zV 31 Tryz.func210 rfl fun h=>X0 9 rfl ?_
 obtain ⟨o1,hF,hK1⟩:=qg hF
 refine qm (rL (fun m e w'=>∃ (i1:Int),qcq list m i1=some o1∧e=[(0,.slice p1 list.length k1),(3,.int .i64 i1)]∧SH w w' []) n ⟨_,hF,rfl,h⟩ rfl ?_)
 rintro m1 e1 w1 ⟨i1,hF,rfl,h⟩
 rcases m1 with _|m1
 ·cases hF
 refine X0 8 rfl (qf rfl hF ?_ ?_)<;>intro hF
 ·refine X0 8 rfl ?_
  obtain ⟨y1,hy1,hF,he1,b1,_,q1,cs2,hp1,hq1,rfl,hc2⟩:=s1.ix hF
  refine zxe hp1 hq1 he1 rfl (zc 0 (hc2.below h.below) rfl (zcB h hF qgh rfl fun r1 w2 h hF=>X0 2 rfl (qf rfl hF ?_ ?_)))<;>intro hF
  ·refine X0 4 rfl ?_
   obtain rfl:=qa hF;replace hF:=hK1
   exact rb h hF rfl
  refine X0 5 rfl ?_
  obtain ⟨o2,hF,hK2⟩:=qg hF
  refine qm (rL (fun m e w'=>∃ (i2:Int),qco list i1 m i2=some o2∧e=[(0,.slice p1 list.length k1),(3,.int .i64 i1),(4,.int .i64 i2)]∧SH w w' []) m1 ⟨_,hF,rfl,h⟩ rfl ?_)
  rintro m2 e2 w3 ⟨i2,hF,rfl,h⟩
  rcases m2 with _|m2
  ·cases hF
  refine X0 7 rfl (qf rfl hF ?_ ?_)<;>intro hF
  ·refine X0 4 rfl (rD (zd2 rfl ?_))
   obtain ⟨y2,hy2,hF,he2,b2,_,q2,cs3,hp2,hq2,rfl,hc5⟩:=s1.ix hF
   refine zdxe hp2 hq2 he2 rfl (zdc 0 (hc5.below h.below) rfl (zd2 rfl ?_))
   obtain ⟨y3,hy3,hF,he3,b3,_,q3,cs4,hp3,hq3,rfl,hc6⟩:=s1.ix hF
   refine zdxe hp3 hq3 he3 rfl (zdc 0 (hc6.below h.below) rfl (zd1 rfl (dN h fun w4 h=>qf rfl hF ?_ ?_)))<;>intro hF
   ·refine X0 4 rfl ?_
    obtain rfl:=qa hF;replace hF:=hK2
    obtain rfl:=qa hF;replace hF:=hK1
    exact rb h hF rfl
   exact X0 7 rfl (rK ⟨_,hF,rfl,h⟩ rfl)
  refine qr rfl ?_
  obtain rfl:=qa hF;replace hF:=hK2
  exact X0 6 rfl (rK ⟨_,hF,rfl,h⟩ rfl)
 refine qr rfl ?_
 obtain rfl:=qa hF;replace hF:=hK1
 exact X0 4 rfl (rb h hF rfl)
def qcg (x5:(List Int)) (x7:(List Int)):Nat→Int→Option (Flow Bool Int)
 | 0,_=>none
 | n+1,i5 =>
  bif decide (i5<(x5.length:Int)) then
   (idx x7 i5).bind fun y11 =>
   bif (y11 != 1) then some (.ret false) else
   qcg x5 x7 n (W64 (i5+1))
  else
   some (.nxt i5)
def qa8 (a_1:qb):Nat→(List Int)→Int→Option ((List Int) × Int)
 | 0,_,_=>none
 | n+1,x7,i4 =>
  bif decide (i4<(a_1.Af.length:Int)) then
   (idx a_1.Af i4).bind fun y7 =>
   bif (y7.Bm==1) then
    (idx a_1.Af i4).bind fun y8 =>
    (idx x7 y8.Bo).bind fun y9 =>
    (idx x7 y8.Bo).bind fun _ =>
    qa8 a_1 n (setS x7 y8.Bo (W64 (y9+1))) (W64 (i4+1))
   else
    qa8 a_1 n x7 (W64 (i4+1))
  else
   some (x7,i4)
def qbC (a_1:qb):Nat→(List Int)→Int→Option ((List Int) × Int)
 | 0,_,_=>none
 | n+1,x6,i3 =>
  bif decide (i3<(a_1.Aa.length:Int)) then
   (idx a_1.Aa i3).bind fun y3 =>
   (idx y3.Ah (W64 ((y3.Ah.length:Int)-1))).bind fun y4 =>
   (idx x6 y4).bind fun y5 =>
   (idx x6 y4).bind fun _ =>
   qbC a_1 n (setS x6 y4 (W64 (y5+1))) (W64 (i3+1))
  else
   some (x6,i3)
def qbB (a_1:qb):Nat→(List ByteArray)→Int→Option ((List ByteArray) × Int)
 | 0,_,_=>none
 | n+1,x3,i2 =>
  bif decide (i2<(a_1.Af.length:Int)) then
   (idx a_1.Af i2).bind fun y2 =>
   (appS x3 ([y2.Ar]:List ByteArray)).bind fun x4 =>
   qbB a_1 n x4 (W64 (i2+1))
  else
   some (x3,i2)
def qbF (a_1:qb):Nat→(List ByteArray)→Int→Option ((List ByteArray) × Int)
 | 0,_,_=>none
 | n+1,x1,i1 =>
  bif decide (i1<(a_1.Aa.length:Int)) then
   (idx a_1.Aa i1).bind fun y1 =>
   (appS x1 ([y1.Ar]:List ByteArray)).bind fun x2 =>
   qbF a_1 n x2 (W64 (i1+1))
  else
   some (x1,i1)
def qfT (n:Nat) (a_0:ql) (a_1:qb):Option Bool :=
 (
  (qft n a_0).bind fun r4 =>
  bif (!r4) then some true else
  bif decide ((a_1.Aa.length:Int) > 14) then some true else
  bif decide ((a_1.Ah.length:Int) > 30) then some true else
  bif decide ((a_1.Af.length:Int) > 8) then some true else
  (qfO n a_0 a_1).bind fun r5 =>
  some (!r5)).bind fun b1 =>
 bif b1 then some false else
 (qbF a_1 n ([]:List ByteArray) 0).bind fun o=>match o with
 | (x1,_) =>
  (qbB a_1 n ([]:List ByteArray) 0).bind fun o=>match o with
  | (x3,_) =>
   (
    (qdO n x1).bind fun r1 =>
    bif (!r1) then some true else
    (qdO n x3).bind fun r2 =>
    bif (!r2) then some true else
    (qdO n a_1.Ah).bind fun r3 =>
    some (!r3)).bind fun b4 =>
   bif b4 then some false else
   (mkS (a_1.Ah.length:Int) (0:Int)).bind fun x5 =>
   (qbC a_1 n x5 0).bind fun o=>match o with
   | (x6,_) =>
    (qa8 a_1 n x6 0).bind fun o=>match o with
    | (x7,_) =>
     (qcg x5 x7 n 0).bind fun o=>match o with
     | .ret r=>some r
     | .nxt _ =>
      some true
theorem qkn {a_0:ql} {a_1:qb} (ha1:GoT.R w (old w) a_0 cs1) (ha2:GoT.R w (old w) a_1 cs2) {r:Bool} (hF:qfT n a_0 a_1=some r):RetV Tryz.prog 131 [GoT.v ql cs1,GoT.v qb cs2] w r:=by
 obtain ⟨p1,k1,rfl,s1⟩:=qaQ ha1
 obtain ⟨p2,k2,p3,k3,p4,k4,rfl,s2,s3,s4⟩:=qW ha2
 refine zV 153 Tryz.func131 rfl fun h=>zSR (qt h rfl rfl fun w1 bb1 h=>qt h rfl rfl fun w2 bb2 h=>X0 4 rfl ?_)
 obtain ⟨KF2,hKF2,o7,hF,hK7⟩:=bindE hF
 refine qcy (fun e w'=>∃ (b1:Bool),KF2 b1=some r∧e=[(3,.pointer (some ⟨bb2,0,none⟩)),(40,.bool b1)]∧SH w w' [Ch.box bb2 (qay a_1 p2 p3 p4 k2 k3 k4) 45]) ?_ ?_
 ·refine X1 2 1 h rfl (zcB h hF (qjW (h.old ha1)) rfl fun r4 w21 h hF=>zp2 rfl (qd (t:=17) hF rfl ?_ ?_))<;>intro hF
  ·refine X0 24 rfl ?_
   replace h:=h.pick [0] rfl
   obtain rfl:=qa hF
   exact rG ⟨_,hK7,rfl,h⟩ rfl
  refine X1 10 0 h rfl (qd (t:=23) hF rfl ?_ ?_)<;>intro hF
  ·refine X0 18 rfl ?_
   replace h:=h.pick [0] rfl
   obtain rfl:=qa hF
   exact rG ⟨_,hK7,rfl,h⟩ rfl
  refine X1 10 0 h rfl (qd (t:=29) hF rfl ?_ ?_)<;>intro hF
  ·refine X0 12 rfl ?_
   replace h:=h.pick [0] rfl
   obtain rfl:=qa hF
   exact rG ⟨_,hK7,rfl,h⟩ rfl
  refine X1 10 0 h rfl (qd (t:=35) hF rfl ?_ ?_)<;>intro hF
  ·refine X0 6 rfl ?_
   replace h:=h.pick [0] rfl
   obtain rfl:=qa hF
   exact rG ⟨_,hK7,rfl,h⟩ rfl
  refine X2 5 1 0 h rfl (zcB h hF (qke (h.old ha1) (h.old ha2)) rfl fun r5 w22 h hF=>X0 4 rfl ?_)
  replace h:=h.pick [0] rfl
  obtain rfl:=qa hF
  exact rG ⟨_,hK7,rfl,h⟩ rfl
 rintro e7 w23 ⟨b1,hF,rfl,h⟩
 subst hKF2
 refine qf rfl hF ?_ ?_<;>intro hF
 ·exact X0 4 rfl (rb h hF rfl)
 refine zKSR (qal qc [] _ ([]:List ByteArray) h rfl rfl rfl rfl rfl rfl rfl rfl rfl trivial rfl fun w3 p5 S1 h=>X0 7 rfl ?_)
 obtain ⟨o1,hF,hK1⟩:=qg hF
 refine qm (rL (fun m e w'=>∃ (S2:Nat→Prop) (p6:Option Addr) (ln1:Nat) (k5:Nat) (x1:(List ByteArray)) (i1:Int),qbF a_1 m x1 i1=some o1∧e=[(3,.pointer (some ⟨bb2,0,none⟩)),(5,.slice p6 ln1 k5),(6,.int .i64 i1)]∧SH w w' [Ch.own S2 (x1:List ByteArray) [.slice p6 ln1 k5],Ch.box bb2 (qay a_1 p2 p3 p4 k2 k3 k4) 45]) n ⟨_,_,_,_,_,_,hF,rfl,h⟩ rfl ?_)
 rintro m1 e1 w4 ⟨S2,p6,ln1,k5,x1,i1,hF,rfl,h⟩
 obtain rfl:=(h.sl 0 rfl).2
 rcases m1 with _|m1
 ·cases hF
 refine X1 9 1 h rfl (qf rfl hF ?_ ?_)<;>intro hF
 ·refine X1 8 1 h rfl ?_
  obtain ⟨y1,hy1,hF,he1,b2,_,q1,cs3,hp1,hq1,hr1,hc3⟩:=s2.ix hF
  obtain ⟨p7,k6,rfl,s5⟩:=qI hr1
  refine zxe hp1 hq1 he1 rfl (zp1 rfl (zc 0 (hc3.below h.below) rfl (qal qc [.tmp 55] _ ([y1.Ar]:List ByteArray) h rfl rfl rfl rfl rfl rfl rfl rfl rfl ⟨rfl,trivial⟩ rfl fun w5 p8 S3 h=>?_)))
  obtain ⟨x2,hx1,hF⟩:=qg hF
  obtain ⟨g1,hx1⟩:=qaP hx1
  refine qdT qc 1 h rfl (h.sl 0 rfl).1 (h.sl 0 rfl).2 rfl rfl rfl rfl rfl rfl rfl rfl rfl g1 hx1 rfl fun w6 p9 k7 S4 h=>X0 8 rfl ?_
  replace h:=h.pick [1,2] rfl
  exact rK ⟨_,_,_,_,_,_,hF,rfl,h⟩ rfl
 refine qr rfl ?_
 obtain rfl:=qa hF;replace hF:=hK1
 refine zSR (qal qc [] _ ([]:List ByteArray) h rfl rfl rfl rfl rfl rfl rfl rfl rfl trivial rfl fun w7 p10 S5 h=>X0 7 rfl ?_)
 obtain ⟨o2,hF,hK2⟩:=qg hF
 refine qm (rL (fun m e w'=>∃ (S6:Nat→Prop) (p11:Option Addr) (ln2:Nat) (k8:Nat) (x3:(List ByteArray)) (i2:Int),qbB a_1 m x3 i2=some o2∧e=[(3,.pointer (some ⟨bb2,0,none⟩)),(5,.slice p6 x1.length k5),(7,.slice p11 ln2 k8),(8,.int .i64 i2)]∧SH w w' [Ch.own S6 (x3:List ByteArray) [.slice p11 ln2 k8],Ch.own S2 (x1:List ByteArray) [.slice p6 x1.length k5],Ch.box bb2 (qay a_1 p2 p3 p4 k2 k3 k4) 45]) n ⟨_,_,_,_,_,_,hF,rfl,h⟩ rfl ?_)
 rintro m2 e2 w8 ⟨S6,p11,ln2,k8,x3,i2,hF,rfl,h⟩
 obtain rfl:=(h.sl 0 rfl).2
 rcases m2 with _|m2
 ·cases hF
 refine X1 9 2 h rfl (qf rfl hF ?_ ?_)<;>intro hF
 ·refine X1 8 2 h rfl ?_
  obtain ⟨y2,hy2,hF,he2,b3,_,q2,cs4,hp2,hq2,hr2,hc5⟩:=s4.ix hF
  obtain rfl:=qau hr2
  refine zxe hp2 hq2 he2 rfl (zp1 rfl (zc 0 (hc5.below h.below) rfl (qal qc [.tmp 72] _ ([y2.Ar]:List ByteArray) h rfl rfl rfl rfl rfl rfl rfl rfl rfl ⟨rfl,trivial⟩ rfl fun w9 p12 S7 h=>?_)))
  obtain ⟨x4,hx2,hF⟩:=qg hF
  obtain ⟨g2,hx2⟩:=qaP hx2
  refine qdT qc 1 h rfl (h.sl 0 rfl).1 (h.sl 0 rfl).2 rfl rfl rfl rfl rfl rfl rfl rfl rfl g2 hx2 rfl fun w10 p13 k9 S8 h=>X0 8 rfl ?_
  replace h:=h.pick [1,2,3] rfl
  exact rK ⟨_,_,_,_,_,_,hF,rfl,h⟩ rfl
 refine qr rfl ?_
 obtain rfl:=qa hF;replace hF:=hK2
 refine zSS ?_
 obtain ⟨KF1,hKF1,o6,hF,hK6⟩:=bindE hF
 refine qcy (fun e w'=>∃ (b4:Bool),KF1 b4=some r∧e=[(3,.pointer (some ⟨bb2,0,none⟩)),(88,.bool b4)]∧SH w w' [Ch.box bb2 (qay a_1 p2 p3 p4 k2 k3 k4) 45]) ?_ ?_
 ·refine X0 2 rfl (zcB h hF (qfw (h.own 1 rfl)) rfl fun r1 w17 h hF=>zp2 rfl (qd (t:=78) hF rfl ?_ ?_))<;>intro hF
  ·refine X0 11 rfl ?_
   replace h:=h.pick [2] rfl
   obtain rfl:=qa hF
   exact rG ⟨_,hK6,rfl,h⟩ rfl
  refine X0 3 rfl (zcB h hF (qfw (h.own 0 rfl)) rfl fun r2 w18 h hF=>X0 4 rfl (qd (t:=83) hF rfl ?_ ?_))<;>intro hF
  ·refine X0 6 rfl ?_
   replace h:=h.pick [2] rfl
   obtain rfl:=qa hF
   exact rG ⟨_,hK6,rfl,h⟩ rfl
  refine X1 5 2 h rfl (zcB h hF (qfw ⟨_,_,rfl,(h.oldS s3)⟩) rfl fun r3 w19 h hF=>X0 4 rfl ?_)
  replace h:=h.pick [2] rfl
  obtain rfl:=qa hF
  exact rG ⟨_,hK6,rfl,h⟩ rfl
 rintro e6 w20 ⟨b4,hF,rfl,h⟩
 subst hKF1
 refine qf rfl hF ?_ ?_<;>intro hF
 ·exact X0 4 rfl (rb h hF rfl)
 refine X1 6 0 h rfl ?_
 obtain ⟨x5,hx3,hF⟩:=qg hF
 obtain ⟨g3,g4,hx3⟩:=qbz hx3
 refine qcw qc Int h rfl rfl rfl rfl rfl rfl rfl rfl rfl g3 g4 hx3 rfl fun w11 S9 p14 h=>X0 7 rfl ?_
 obtain ⟨o3,hF,hK3⟩:=qg hF
 refine qm (rL (fun m e w'=>∃ (x6:(List Int)) (i3:Int),qbC a_1 m x6 i3=some o3∧e=[(3,.pointer (some ⟨bb2,0,none⟩)),(9,.slice p14 x5.length x5.length),(10,.int .i64 i3)]∧SH w w' [Ch.own S9 (x6:List Int) [.slice p14 x5.length x5.length],Ch.box bb2 (qay a_1 p2 p3 p4 k2 k3 k4) 45]) n ⟨_,_,hF,rfl,h⟩ rfl ?_)
 rintro m3 e3 w12 ⟨x6,i3,hF,rfl,h⟩
 rcases m3 with _|m3
 ·cases hF
 refine X1 9 1 h rfl (qf rfl hF ?_ ?_)<;>intro hF
 ·refine X1 8 1 h rfl ?_
  obtain ⟨y3,hy3,hF,he3,b5,_,q3,cs5,hp3,hq3,hr3,hc8⟩:=s2.ix hF
  obtain ⟨p15,k10,rfl,s6⟩:=qI hr3
  refine zxe hp3 hq3 he3 rfl (zp1 rfl (zc 2 (hc8.below h.below) rfl (X0 8 rfl ?_)))
  obtain ⟨y4,hy4,hF,he4,b6,_,q4,cs6,hp4,hq4,rfl,hc9⟩:=s6.ix hF
  refine zxe hp4 hq4 he4 rfl (zc 0 (hc9.below h.below) rfl ?_)
  obtain ⟨y5,hy5,hF,he5,b7,_,q5,cs7,hp5,hq5,rfl,hc10⟩:=(h.sl 0 rfl).1.ix hF
  refine zx hp5 hq5 ⟨he5.1,qak he5.2.1 (h.sl 0 rfl).2⟩ rfl (zc 0 hc10 rfl (zp1 rfl ?_))
  obtain ⟨y6,hy6,hF,he6,b8,_,q6,cs8,hp6,hq6,rfl,hc11⟩:=(h.sl 0 rfl).1.ix hF
  exact zx hp6 hq6 ⟨he6.1,qak he6.2.1 (h.sl 0 rfl).2⟩ rfl (qc1 qc 0 0 (W64 (y5+1)) h rfl hy6 hp6 hq6 rfl hc11 rfl rfl rfl rfl rfl rfl rfl fun w13 h=>X0 7 rfl (rK ⟨_,_,hF,rfl,h⟩ rfl))
 refine qr rfl ?_
 obtain rfl:=qa hF;replace hF:=hK3
 refine X0 5 rfl ?_
 obtain ⟨o4,hF,hK4⟩:=qg hF
 refine qm (rL (fun m e w'=>∃ (x7:(List Int)) (i4:Int),qa8 a_1 m x7 i4=some o4∧e=[(3,.pointer (some ⟨bb2,0,none⟩)),(9,.slice p14 x5.length x5.length),(12,.int .i64 i4)]∧SH w w' [Ch.own S9 (x7:List Int) [.slice p14 x5.length x5.length],Ch.box bb2 (qay a_1 p2 p3 p4 k2 k3 k4) 45]) n ⟨_,_,hF,rfl,h⟩ rfl ?_)
 rintro m4 e4 w14 ⟨x7,i4,hF,rfl,h⟩
 rcases m4 with _|m4
 ·cases hF
 refine X1 9 1 h rfl (qf rfl hF ?_ ?_)<;>intro hF
 ·refine X1 8 1 h rfl ?_
  obtain ⟨y7,hy7,hF,he7,b9,_,q7,cs9,hp7,hq7,hr7,hc13⟩:=s4.ix hF
  obtain rfl:=qau hr7
  refine zxe hp7 hq7 he7 rfl (zp1 rfl (zc 1 (hc13.below h.below) rfl (X0 2 rfl (qf rfl hF ?_ ?_))))<;>intro hF
  ·refine X1 5 1 h rfl ?_
   obtain ⟨y8,hy8,hF,he8,b10,_,q8,cs10,hp8,hq8,hr8,hc15⟩:=s4.ix hF
   obtain rfl:=qau hr8
   refine zxe hp8 hq8 he8 rfl (zp1 rfl (zc 2 (hc15.below h.below) rfl ?_))
   obtain ⟨y9,hy9,hF,he9,b11,_,q9,cs11,hp9,hq9,rfl,hc16⟩:=(h.sl 0 rfl).1.ix hF
   refine zx hp9 hq9 ⟨he9.1,qak he9.2.1 (h.sl 0 rfl).2⟩ rfl (zc 0 hc16 rfl (zp1 rfl ?_))
   obtain ⟨y10,hy10,hF,he10,b12,_,q10,cs12,hp10,hq10,rfl,hc17⟩:=(h.sl 0 rfl).1.ix hF
   exact zx hp10 hq10 ⟨he10.1,qak he10.2.1 (h.sl 0 rfl).2⟩ rfl (qc1 qc 0 0 (W64 (y9+1)) h rfl hy10 hp10 hq10 rfl hc17 rfl rfl rfl rfl rfl rfl rfl fun w15 h=>X0 7 rfl (rK ⟨_,_,hF,rfl,h⟩ rfl))
  exact X0 7 rfl (rK ⟨_,_,hF,rfl,h⟩ rfl)
 refine qr rfl ?_
 obtain rfl:=qa hF;replace hF:=hK4
 refine X0 5 rfl ?_
 obtain ⟨o5,hF,hK5⟩:=qg hF
 refine qm ?_
 replace h:=h.pick [0] rfl
 refine rL (fun m e w'=>∃ (i5:Int),qcg x5 x7 m i5=some o5∧e=[(9,.slice p14 x5.length x5.length),(13,.int .i64 i5)]∧SH w w' [Ch.own S9 (x7:List Int) [.slice p14 x5.length x5.length]]) n ⟨_,hF,rfl,h⟩ rfl ?_
 rintro m5 e5 w16 ⟨i5,hF,rfl,h⟩
 rcases m5 with _|m5
 ·cases hF
 refine X0 8 rfl (qf rfl hF ?_ ?_)<;>intro hF
 ·refine X0 7 rfl ?_
  obtain ⟨y11,hy11,hF,he11,b13,_,q11,cs13,hp11,hq11,rfl,hc19⟩:=(h.sl 0 rfl).1.ix hF
  refine zx hp11 hq11 ⟨he11.1,qak he11.2.1 (h.sl 0 rfl).2⟩ rfl (zc 0 hc19 rfl (X0 2 rfl (qf rfl hF ?_ ?_)))<;>intro hF
  ·refine X0 4 rfl ?_
   obtain rfl:=qa hF;replace hF:=hK5
   exact rb h hF rfl
  exact X0 7 rfl (rK ⟨_,hF,rfl,h⟩ rfl)
 refine qr rfl ?_
 obtain rfl:=qa hF;replace hF:=hK5
 exact X0 4 rfl (rb h hF rfl)
def qc6 (a_0:qC):Nat→Int→Option (Flow Bool Int)
 | 0,_=>none
 | n+1,i2 =>
  bif decide (i2<(a_0.Bc.length:Int)) then
   (idx a_0.Bc i2).bind fun y7 =>
   (qX n y7 0 (W64 ((a_0.Ai.length:Int)-1))).bind fun r5 =>
   bif (!r5) then some (.ret false) else
   qc6 a_0 n (W64 (i2+1))
  else
   some (.nxt i2)
def qbe (a_0:qC):Nat→Int→Option (Flow Bool Int)
 | 0,_=>none
 | n+1,i1 =>
  bif decide (i1<(a_0.Ai.length:Int)) then
   (
    (idx a_0.Bk i1).bind fun y5 =>
    (qX n y5 0 500).bind fun r3 =>
    bif (!r3) then some true else
    (idx a_0.Bn i1).bind fun y6 =>
    (qX n y6 0 1000).bind fun r4 =>
    some (!r4)).bind fun b2 =>
   bif b2 then some (.ret false) else
   bif (i1==0) then
    (idx a_0.Ai i1).bind fun y1 =>
    bif (y1 != (-1)) then some (.ret false) else
    (idx a_0.Bn i1).bind fun y2 =>
    bif (y2 != 0) then some (.ret false) else
    bif decide (i1 > 0) then
     (idx a_0.Ai i1).bind fun y3 =>
     (qX n y3 0 (W64 (i1-1))).bind fun r1 =>
     bif (!r1) then some (.ret false) else
     qbe a_0 n (W64 (i1+1))
    else
     qbe a_0 n (W64 (i1+1))
   else
    bif decide (i1 > 0) then
     (idx a_0.Ai i1).bind fun y4 =>
     (qX n y4 0 (W64 (i1-1))).bind fun r2 =>
     bif (!r2) then some (.ret false) else
     qbe a_0 n (W64 (i1+1))
    else
     qbe a_0 n (W64 (i1+1))
  else
   some (.nxt i1)
def qhk (n:Nat) (a_0:qC) (a_1:Int):Option Bool :=
 (
  bif decide ((a_0.Ai.length:Int)<1) then some true else
  bif decide ((a_0.Ai.length:Int) > 8) then some true else
  bif ((a_0.Bn.length:Int) != (a_0.Ai.length:Int)) then some true else
  bif ((a_0.Bk.length:Int) != (a_0.Ai.length:Int)) then some true else
  some ((a_0.Bc.length:Int) != a_1)).bind fun b1 =>
 bif b1 then some false else
 (qbe a_0 n 0).bind fun o=>match o with
 | .ret r=>some r
 | .nxt _ =>
  (qc6 a_0 n 0).bind fun o=>match o with
  | .ret r=>some r
  | .nxt _ =>
   some true
theorem qlr {a_0:qC} {a_1:Int} (ha1:GoT.R w (old w) a_0 cs1) {r:Bool} (hF:qhk n a_0 a_1=some r):RetV Tryz.prog 132 [GoT.v qC cs1,.int .i64 a_1] w r:=by
 obtain ⟨p1,k1,p2,k2,p3,k3,p4,k4,rfl,s1,s2,s3,s4⟩:=qaN ha1
 refine zV 108 Tryz.func132 rfl fun h=>zSR (qt h rfl rfl fun w1 bb1 h=>X1 11 0 h rfl ?_)
 obtain ⟨KF2,hKF2,o4,hF,hK4⟩:=bindE hF
 refine qcy (fun e w'=>∃ (b1:Bool),KF2 b1=some r∧e=[(2,.pointer (some ⟨bb1,0,none⟩)),(5,.int .i64 (a_0.Ai.length:Int)),(37,.bool b1)]∧SH w w' [Ch.box bb1 (qfn a_0 p1 p2 p3 p4 k1 k2 k3 k4) 215]) ?_ ?_
 ·refine X0 4 rfl (qd (t:=13) hF rfl ?_ ?_)<;>intro hF
  ·refine X0 25 rfl ?_
   obtain rfl:=qa hF
   exact rG ⟨_,hK4,rfl,h⟩ rfl
  refine X0 6 rfl (qd (t:=17) hF rfl ?_ ?_)<;>intro hF
  ·refine X0 21 rfl ?_
   obtain rfl:=qa hF
   exact rG ⟨_,hK4,rfl,h⟩ rfl
  refine X1 12 0 h rfl (qd (t:=24) hF rfl ?_ ?_)<;>intro hF
  ·refine X0 14 rfl ?_
   obtain rfl:=qa hF
   exact rG ⟨_,hK4,rfl,h⟩ rfl
  refine X1 12 0 h rfl (qd (t:=31) hF rfl ?_ ?_)<;>intro hF
  ·refine X0 7 rfl ?_
   obtain rfl:=qa hF
   exact rG ⟨_,hK4,rfl,h⟩ rfl
  refine X1 12 0 h rfl ?_
  obtain rfl:=qa hF
  exact rG ⟨_,hK4,rfl,h⟩ rfl
 rintro e4 w10 ⟨b1,hF,rfl,h⟩
 subst hKF2
 refine qf rfl hF ?_ ?_<;>intro hF
 ·exact X0 4 rfl (rb h hF rfl)
 refine X0 6 rfl ?_
 obtain ⟨o1,hF,hK1⟩:=qg hF
 refine qm (rL (fun m e w'=>∃ (i1:Int),qbe a_0 m i1=some o1∧e=[(2,.pointer (some ⟨bb1,0,none⟩)),(5,.int .i64 (a_0.Ai.length:Int)),(6,.int .i64 i1)]∧SH w w' [Ch.box bb1 (qfn a_0 p1 p2 p3 p4 k1 k2 k3 k4) 215]) n ⟨_,hF,rfl,h⟩ rfl ?_)
 rintro m1 e1 w2 ⟨i1,hF,rfl,h⟩
 rcases m1 with _|m1
 ·cases hF
 refine X0 7 rfl (qf rfl hF ?_ ?_)<;>intro hF
 ·refine X0 5 rfl ?_
  obtain ⟨KF1,hKF1,o2,hF,hK2⟩:=bindE hF
  refine qcy (fun e w'=>∃ (b2:Bool),KF1 b2=some o1∧e=[(2,.pointer (some ⟨bb1,0,none⟩)),(5,.int .i64 (a_0.Ai.length:Int)),(6,.int .i64 i1),(58,.bool b2)]∧SH w w' [Ch.box bb1 (qfn a_0 p1 p2 p3 p4 k1 k2 k3 k4) 215]) ?_ ?_
  ·refine X1 4 0 h rfl ?_
   obtain ⟨y5,hy5,hF,he5,b7,_,q5,cs6,hp5,hq5,rfl,hc10⟩:=s3.ix hF
   refine zxe hp5 hq5 he5 rfl (zc 0 (hc10.below h.below) rfl (zcB h hF qP rfl fun r3 w5 h hF=>zp2 rfl (qd (t:=50) hF rfl ?_ ?_)))<;>intro hF
   ·refine X0 9 rfl ?_
    obtain rfl:=qa hF
    exact rG ⟨_,hK2,rfl,h⟩ rfl
   refine X1 7 0 h rfl ?_
   obtain ⟨y6,hy6,hF,he6,b8,_,q6,cs7,hp6,hq6,rfl,hc11⟩:=s2.ix hF
   refine zxe hp6 hq6 he6 rfl (X0 1 rfl (zc 0 (hc11.below h.below) rfl (X0 1 rfl (zcB h hF qP rfl fun r4 w6 h hF=>X0 4 rfl ?_))))
   obtain rfl:=qa hF
   exact rG ⟨_,hK2,rfl,h⟩ rfl
  rintro e2 w7 ⟨b2,hF,rfl,h⟩
  subst hKF1
  refine qf rfl hF ?_ ?_<;>intro hF
  ·refine X0 4 rfl ?_
   obtain rfl:=qa hF;replace hF:=hK1
   exact rb h hF rfl
  refine X0 6 rfl (qd (t:=61) hF rfl ?_ ?_)<;>intro hF
  ·refine X1 7 0 h rfl ?_
   obtain ⟨y1,hy1,hF,he1,b3,_,q1,cs2,hp1,hq1,rfl,hc4⟩:=s1.ix hF
   refine zxe hp1 hq1 he1 rfl (X0 1 rfl (zc 0 (hc4.below h.below) rfl (X0 4 rfl (qd (t:=68) hF rfl ?_ ?_))))<;>intro hF
   ·refine X0 25 rfl (qbH rfl rfl (X0 4 rfl ?_))
    obtain rfl:=qa hF;replace hF:=hK1
    exact rb h hF rfl
   refine X1 7 0 h rfl ?_
   obtain ⟨y2,hy2,hF,he2,b4,_,q2,cs3,hp2,hq2,rfl,hc5⟩:=s2.ix hF
   refine zxe hp2 hq2 he2 rfl (X0 1 rfl (zc 0 (hc5.below h.below) rfl (X0 6 rfl (qd (t:=77) hF rfl ?_ ?_))))<;>intro hF
   ·refine X0 15 rfl (qbH rfl rfl (X0 4 rfl ?_))
    obtain rfl:=qa hF;replace hF:=hK1
    exact rb h hF rfl
   refine X0 6 rfl (qd (t:=80) hF rfl ?_ ?_)<;>intro hF
   ·refine X1 7 0 h rfl ?_
    obtain ⟨y3,hy3,hF,he3,b5,_,q3,cs4,hp3,hq3,rfl,hc6⟩:=s1.ix hF
    refine zxe hp3 hq3 he3 rfl (X0 1 rfl (zc 0 (hc6.below h.below) rfl (X0 5 rfl (zcB h hF qP rfl fun r1 w3 h hF=>X0 6 rfl (qf rfl hF ?_ ?_)))))<;>intro hF
    ·refine X0 4 rfl ?_
     obtain rfl:=qa hF;replace hF:=hK1
     exact rb h hF rfl
    exact X0 7 rfl (rK ⟨_,hF,rfl,h⟩ rfl)
   exact X0 13 rfl (qd3 rfl rfl (X0 7 rfl (rK ⟨_,hF,rfl,h⟩ rfl)))
  refine X0 22 rfl (qd (t:=80) hF rfl ?_ ?_)<;>intro hF
  ·refine X1 7 0 h rfl ?_
   obtain ⟨y4,hy4,hF,he4,b6,_,q4,cs5,hp4,hq4,rfl,hc8⟩:=s1.ix hF
   refine zxe hp4 hq4 he4 rfl (X0 1 rfl (zc 0 (hc8.below h.below) rfl (X0 5 rfl (zcB h hF qP rfl fun r2 w4 h hF=>X0 6 rfl (qf rfl hF ?_ ?_)))))<;>intro hF
   ·refine X0 4 rfl ?_
    obtain rfl:=qa hF;replace hF:=hK1
    exact rb h hF rfl
   exact X0 7 rfl (rK ⟨_,hF,rfl,h⟩ rfl)
  exact X0 13 rfl (qd3 rfl rfl (X0 7 rfl (rK ⟨_,hF,rfl,h⟩ rfl)))
 refine qr rfl ?_
 obtain rfl:=qa hF;replace hF:=hK1
 refine X0 5 rfl ?_
 obtain ⟨o3,hF,hK3⟩:=qg hF
 refine qm (rL (fun m e w'=>∃ (i2:Int),qc6 a_0 m i2=some o3∧e=[(2,.pointer (some ⟨bb1,0,none⟩)),(5,.int .i64 (a_0.Ai.length:Int)),(7,.int .i64 i2)]∧SH w w' [Ch.box bb1 (qfn a_0 p1 p2 p3 p4 k1 k2 k3 k4) 215]) n ⟨_,hF,rfl,h⟩ rfl ?_)
 rintro m2 e3 w8 ⟨i2,hF,rfl,h⟩
 rcases m2 with _|m2
 ·cases hF
 refine X1 9 0 h rfl (qf rfl hF ?_ ?_)<;>intro hF
 ·refine X1 8 0 h rfl ?_
  obtain ⟨y7,hy7,hF,he7,b9,_,q7,cs8,hp7,hq7,rfl,hc13⟩:=s4.ix hF
  refine zxe hp7 hq7 he7 rfl (zc 0 (hc13.below h.below) rfl (zp2 rfl (zcB h hF qP rfl fun r5 w9 h hF=>X0 2 rfl (qf rfl hF ?_ ?_))))<;>intro hF
  ·refine X0 4 rfl ?_
   obtain rfl:=qa hF;replace hF:=hK3
   exact rb h hF rfl
  exact X0 7 rfl (rK ⟨_,hF,rfl,h⟩ rfl)
 refine qr rfl ?_
 obtain rfl:=qa hF;replace hF:=hK3
 exact X0 4 rfl (rb h hF rfl)
def qbg (i1:Int) (y1:qe):Nat→(List Tl05Place)→Int→Option ((List Tl05Place) × Int)
 | 0,_,_=>none
 | n+1,x2,i2 =>
  bif decide (i2<(y1.Ah.length:Int)) then
   (idx y1.Ah i2).bind fun y2 =>
   (appS x2 ([(⟨i1,i2,y2,(i2==(W64 ((y1.Ah.length:Int)-1)))⟩:Tl05Place)]:List Tl05Place)).bind fun x3 =>
   qbg i1 y1 n x3 (W64 (i2+1))
  else
   some (x2,i2)
def qbh (a_0:qb):Nat→(List Tl05Place)→Int→Option ((List Tl05Place) × Int)
 | 0,_,_=>none
 | n+1,x4,i3 =>
  bif decide (i3<(a_0.Af.length:Int)) then
   (idx a_0.Af i3).bind fun y3 =>
   (idx a_0.Af i3).bind fun y4 =>
   (appS x4 ([(⟨(-1),i3,y3.Bo,(y4.Bm==1)⟩:Tl05Place)]:List Tl05Place)).bind fun x5 =>
   qbh a_0 n x5 (W64 (i3+1))
  else
   some (x4,i3)
def qbl (a_0:qb):Nat→(List Tl05Place)→Int→Option ((List Tl05Place) × Int)
 | 0,_,_=>none
 | n+1,x1,i1 =>
  bif decide (i1<(a_0.Aa.length:Int)) then
   (idx a_0.Aa i1).bind fun y1 =>
   (qbg i1 y1 n x1 0).bind fun o=>match o with
   | (x2,_) =>
    qbl a_0 n x2 (W64 (i1+1))
  else
   some (x1,i1)
def qdh (n:Nat) (a_0:qb):Option (List Tl05Place) :=
 (qbl a_0 n ([]:List Tl05Place) 0).bind fun o=>match o with
 | (x1,_) =>
  (qbh a_0 n x1 0).bind fun o=>match o with
  | (x4,_) =>
   some x4
theorem qfi {a_0:qb} (ha1:GoT.R w (old w) a_0 cs1) {r:(List Tl05Place)} (hF:qdh n a_0=some r):RetV Tryz.prog 184 [GoT.v qb cs1] w r:=by
 obtain ⟨p1,k1,p2,k2,p3,k3,rfl,s1,s2,s3⟩:=qW ha1
 refine zV 69 Tryz.func184 rfl fun h=>zSR (qt h rfl rfl fun w1 bb1 h=>X0 4 rfl (qal qc [] _ ([]:List Tl05Place) h rfl rfl rfl rfl rfl rfl rfl rfl rfl trivial rfl fun w2 p4 S1 h=>X0 7 rfl ?_))
 obtain ⟨o1,hF,hK1⟩:=qg hF
 refine qm (rL (fun m e w'=>∃ (S2:Nat→Prop) (p5:Option Addr) (ln1:Nat) (k4:Nat) (x1:(List Tl05Place)) (i1:Int),qbl a_0 m x1 i1=some o1∧e=[(1,.pointer (some ⟨bb1,0,none⟩)),(3,.slice p5 ln1 k4),(4,.int .i64 i1)]∧SH w w' [Ch.own S2 (x1:List Tl05Place) [.slice p5 ln1 k4],Ch.box bb1 (qay a_0 p1 p2 p3 k1 k2 k3) 45]) n ⟨_,_,_,_,_,_,hF,rfl,h⟩ rfl ?_)
 rintro m1 e1 w3 ⟨S2,p5,ln1,k4,x1,i1,hF,rfl,h⟩
 obtain rfl:=(h.sl 0 rfl).2
 rcases m1 with _|m1
 ·cases hF
 refine X1 9 1 h rfl (qf rfl hF ?_ ?_)<;>intro hF
 ·refine X1 8 1 h rfl ?_
  obtain ⟨y1,hy1,hF,he1,b1,_,q1,cs2,hp1,hq1,hr1,hc2⟩:=s1.ix hF
  obtain ⟨p6,k5,rfl,s4⟩:=qI hr1
  refine zxe hp1 hq1 he1 rfl (zp1 rfl (zc 2 (hc2.below h.below) rfl (X0 6 rfl ?_)))
  obtain ⟨o2,hF,hK2⟩:=qg hF
  refine qm (rL (fun m e w'=>∃ (S3:Nat→Prop) (p7:Option Addr) (ln2:Nat) (k6:Nat) (x2:(List Tl05Place)) (i2:Int),qbg i1 y1 m x2 i2=some o2∧e=[(1,.pointer (some ⟨bb1,0,none⟩)),(3,.slice p7 ln2 k6),(4,.int .i64 i1),(5,.slice p6 y1.Ah.length k5),(6,.int .i64 i2)]∧SH w w' [Ch.own S3 (x2:List Tl05Place) [.slice p7 ln2 k6],Ch.box bb1 (qay a_0 p1 p2 p3 k1 k2 k3) 45]) m1 ⟨_,_,_,_,_,_,hF,rfl,h⟩ rfl ?_)
  rintro m2 e2 w4 ⟨S3,p7,ln2,k6,x2,i2,hF,rfl,h⟩
  obtain rfl:=(h.sl 0 rfl).2
  rcases m2 with _|m2
  ·cases hF
  refine X0 8 rfl (qf rfl hF ?_ ?_)<;>intro hF
  ·refine X0 9 rfl ?_
   obtain ⟨y2,hy2,hF,he2,b2,_,q2,cs3,hp2,hq2,rfl,hc4⟩:=s4.ix hF
   refine zxe hp2 hq2 he2 rfl (zc 0 (hc4.below h.below) rfl (zp5 rfl (r_v (qbf qc [0,1,2,3] [.tmp 29,.tmp 30,.tmp 34,.tmp 39] rfl rfl rfl rfl rfl rfl rfl rfl) rfl (qal qc [.tmp 40] _ ([(⟨i1,i2,y2,(i2==(W64 ((y1.Ah.length:Int)-1)))⟩:Tl05Place)]:List Tl05Place) h rfl rfl rfl rfl rfl rfl rfl rfl rfl ⟨(qjf (⟨i1,i2,y2,(i2==(W64 ((y1.Ah.length:Int)-1)))⟩:Tl05Place)),trivial⟩ rfl fun w5 p8 S4 h=>?_))))
   obtain ⟨x3,hx1,hF⟩:=qg hF
   obtain ⟨g1,hx1⟩:=qaP hx1
   refine qdT qc 1 h rfl (h.sl 0 rfl).1 (h.sl 0 rfl).2 rfl rfl rfl rfl rfl rfl rfl rfl rfl g1 hx1 rfl fun w6 p9 k7 S5 h=>X0 8 rfl ?_
   replace h:=h.pick [1,2] rfl
   exact rK ⟨_,_,_,_,_,_,hF,rfl,h⟩ rfl
  refine qr rfl ?_
  obtain rfl:=qa hF;replace hF:=hK2
  exact X0 6 rfl (rK ⟨_,_,_,_,_,_,hF,rfl,h⟩ rfl)
 refine qr rfl ?_
 obtain rfl:=qa hF;replace hF:=hK1
 refine X0 5 rfl ?_
 obtain ⟨o3,hF,hK3⟩:=qg hF
 refine qm (rL (fun m e w'=>∃ (S6:Nat→Prop) (p10:Option Addr) (ln3:Nat) (k8:Nat) (x4:(List Tl05Place)) (i3:Int),qbh a_0 m x4 i3=some o3∧e=[(1,.pointer (some ⟨bb1,0,none⟩)),(3,.slice p10 ln3 k8),(7,.int .i64 i3)]∧SH w w' [Ch.own S6 (x4:List Tl05Place) [.slice p10 ln3 k8],Ch.box bb1 (qay a_0 p1 p2 p3 k1 k2 k3) 45]) n ⟨_,_,_,_,_,_,hF,rfl,h⟩ rfl ?_)
 rintro m3 e3 w7 ⟨S6,p10,ln3,k8,x4,i3,hF,rfl,h⟩
 obtain rfl:=(h.sl 0 rfl).2
 rcases m3 with _|m3
 ·cases hF
 refine X1 9 1 h rfl (qf rfl hF ?_ ?_)<;>intro hF
 ·refine zKSB (rA [] [1] h rfl fun w8 h=>M1 31 [0,1,2,3,4] 0 (h.pick [1] rfl) rfl ?_)
  obtain ⟨y3,hy3,hF,he3,b3,_,q3,cs4,hp3,hq3,hr3,hc6⟩:=s3.ix hF
  obtain rfl:=qau hr3
  refine Ae 5 63 hp3 hq3 he3 (h.pick [1] rfl) rfl (M0 127 [6] (h.pick [1] rfl) rfl (Al 7 255 2 hc6 (h.pick [1] rfl) rfl (M1 2047 [8,9,10] 0 (h.pick [1] rfl) rfl ?_)))
  obtain ⟨y4,hy4,hF,he4,b4,_,q4,cs5,hp4,hq4,hr4,hc7⟩:=s3.ix hF
  obtain rfl:=qau hr4
  refine Ae 11 4095 hp4 hq4 he4 (h.pick [1] rfl) rfl (M0 8191 [12] (h.pick [1] rfl) rfl (Al 13 16383 1 hc7 (h.pick [1] rfl) rfl (M0 32767 [14] (h.pick [1] rfl) rfl (Aw 15 65535 (fun w' hw=>qbf qc [0,1,2,3] [.const (.int .i64 (-1)),.tmp 51,.tmp 57,.tmp 64] rfl rfl rfl rfl rfl rfl rfl rfl) (h.pick [1] rfl) rfl ?_))))
  refine Ao 16 131071 rfl (qal qc [.tmp 65] _ ([(⟨(-1),i3,y3.Bo,(y4.Bm==1)⟩:Tl05Place)]:List Tl05Place) h rfl rfl rfl rfl rfl rfl rfl rfl rfl ⟨(qjf (⟨(-1),i3,y3.Bo,(y4.Bm==1)⟩:Tl05Place)),trivial⟩ rfl fun w9 p11 S7 h=>Ag (h.pick [2] rfl) (Ao 17 262143 rfl ?_))
  obtain ⟨x5,hx2,hF⟩:=qg hF
  obtain ⟨g2,hx2⟩:=qaP hx2
  refine qdT qc 1 h rfl (h.sl 0 rfl).1 (h.sl 0 rfl).2 rfl rfl rfl rfl rfl rfl rfl rfl rfl g2 hx2 rfl fun w10 p12 k9 S8 h=>G0 524287 [18] (h.pick [2] rfl) rfl (Ad (X0 6 rfl ?_))
  replace h:=h.pick [1,2] rfl
  exact rK ⟨_,_,_,_,_,_,hF,rfl,h⟩ rfl
 refine qr rfl ?_
 obtain rfl:=qa hF;replace hF:=hK3
 refine X0 5 rfl ?_
 obtain rfl:=qa hF
 exact rO 0 h rfl ⟨rfl,trivial⟩
def qba (net:Int) (r1:(List Tl05Place)):Nat→(List Int)→Int→Option ((List Int) × Int)
 | 0,_,_=>none
 | n+1,x1,i1 =>
  bif decide (i1<(r1.length:Int)) then
   (
    (idx r1 i1).bind fun y1 =>
    bif (y1.net==net) then
     (idx r1 i1).bind fun y2 =>
     some (!y2.drives)
    else
     some false).bind fun b1 =>
   bif b1 then
    (appS x1 ([i1]:List Int)).bind fun x2 =>
    qba net r1 n x2 (W64 (i1+1))
   else
    qba net r1 n x1 (W64 (i1+1))
  else
   some (x1,i1)
def qfN (n:Nat) (d:qb) (net:Int):Option (List Int) :=
 (qdh n d).bind fun r1 =>
 (qba net r1 n ([]:List Int) 0).bind fun o=>match o with
 | (x1,_) =>
  some x1
theorem qkg {d:qb} {net:Int} (ha1:GoT.R w (old w) d cs1) {r:(List Int)} (hF:qfN n d net=some r):RetV Tryz.prog 133 [GoT.v qb cs1,.int .i64 net] w r:=by
 obtain ⟨p1,k1,p2,k2,p3,k3,rfl,s1,s2,s3⟩:=qW ha1
 refine zV 37 Tryz.func133 rfl fun h=>zSR (qt h rfl rfl fun w1 bb1 h=>X0 4 rfl (qal qc [] _ ([]:List Int) h rfl rfl rfl rfl rfl rfl rfl rfl rfl trivial rfl fun w2 p4 S1 h=>X1 5 1 h rfl (zcL h hF (qfi (h.old ha1)) rfl fun r1 w3 S2 p5 k4 h hF=>X0 7 rfl ?_)))
 obtain ⟨o1,hF,hK1⟩:=qg hF
 refine qm ?_
 replace h:=h.pick [0,1] rfl
 refine rL (fun m e w'=>∃ (S3:Nat→Prop) (p6:Option Addr) (ln1:Nat) (k5:Nat) (x1:(List Int)) (i1:Int),qba net r1 m x1 i1=some o1∧e=[(1,.int .i64 net),(5,.slice p6 ln1 k5),(6,.slice p5 r1.length k4),(7,.int .i64 i1)]∧SH w w' [Ch.own S2 (r1:List Tl05Place) [.slice p5 r1.length k4],Ch.own S3 (x1:List Int) [.slice p6 ln1 k5]]) n ⟨_,_,_,_,_,_,hF,rfl,h⟩ rfl ?_
 rintro m1 e1 w4 ⟨S3,p6,ln1,k5,x1,i1,hF,rfl,h⟩
 obtain rfl:=(h.sl 1 rfl).2
 rcases m1 with _|m1
 ·cases hF
 refine X0 8 rfl (qf rfl hF ?_ ?_)<;>intro hF
 ·refine X0 4 rfl ?_
  obtain ⟨KF1,hKF1,o2,hF,hK2⟩:=bindE hF
  refine qcy (fun e w'=>∃ (b1:Bool),KF1 b1=some o1∧e=[(1,.int .i64 net),(5,.slice p6 x1.length k5),(6,.slice p5 r1.length k4),(7,.int .i64 i1),(31,.bool b1)]∧SH w w' [Ch.own S2 (r1:List Tl05Place) [.slice p5 r1.length k4],Ch.own S3 (x1:List Int) [.slice p6 x1.length k5]]) ?_ ?_
  ·refine X0 3 rfl ?_
   obtain ⟨y1,hy1,hF,he1,b2,_,q1,cs2,hp1,hq1,hr2,hc3⟩:=(h.sl 0 rfl).1.ix hF
   obtain rfl:=qe9 hr2
   refine zx hp1 hq1 ⟨he1.1,qak he1.2.1 (h.sl 0 rfl).2⟩ rfl (zp1 rfl (zc 2 hc3 rfl (zp3 rfl (qd (t:=24) hF rfl ?_ ?_))))<;>intro hF
   ·refine X0 5 rfl ?_
    obtain ⟨y2,hy2,hF,he2,b3,_,q2,cs3,hp2,hq2,hr3,hc4⟩:=(h.sl 0 rfl).1.ix hF
    obtain rfl:=qe9 hr3
    refine zx hp2 hq2 ⟨he2.1,qak he2.2.1 (h.sl 0 rfl).2⟩ rfl (X0 3 rfl (zc 3 hc4 rfl (X0 4 rfl ?_)))
    obtain rfl:=qa hF
    exact rG ⟨_,hK2,rfl,h⟩ rfl
   refine X0 8 rfl ?_
   obtain rfl:=qa hF
   exact rG ⟨_,hK2,rfl,h⟩ rfl
  rintro e2 w7 ⟨b1,hF,rfl,h⟩
  subst hKF1
  refine qf rfl hF ?_ ?_<;>intro hF
  ·refine X0 3 rfl (qal qc [.tmp 33] _ ([i1]:List Int) h rfl rfl rfl rfl rfl rfl rfl rfl rfl ⟨rfl,trivial⟩ rfl fun w5 p7 S4 h=>?_)
   obtain ⟨x2,hx1,hF⟩:=qg hF
   obtain ⟨g1,hx1⟩:=qaP hx1
   refine qdT qc 2 h rfl (h.sl 0 rfl).1 (h.sl 0 rfl).2 rfl rfl rfl rfl rfl rfl rfl rfl rfl g1 hx1 rfl fun w6 p8 k6 S5 h=>X0 8 rfl ?_
   replace h:=h.pick [1,2] rfl
   exact rK ⟨_,_,_,_,_,_,hF,rfl,h⟩ rfl
  exact X0 7 rfl (rK ⟨_,_,_,_,_,_,hF,rfl,h⟩ rfl)
 refine qr rfl ?_
 obtain rfl:=qa hF;replace hF:=hK1
 refine X0 5 rfl ?_
 obtain rfl:=qa hF
 exact rO 1 h rfl ⟨rfl,trivial⟩
def qcI (b:qk):Nat→Int→Option (Flow Bool Int)
 | 0,_=>none
 | n+1,i1 =>
  bif decide (i1<(b.Ac.length:Int)) then
   (idx b.Ac i1).bind fun y1 =>
   (qfN n (⟨b.Ab.Aa,b.Ab.Ah,b.Ab.Af⟩:qb) i1).bind fun r1 =>
   (qhk n y1 (r1.length:Int)).bind fun r2 =>
   bif (!r2) then some (.ret false) else
   qcI b n (W64 (i1+1))
  else
   some (.nxt i1)
def qgF (n:Nat) (b:qk):Option Bool :=
 (
  (qfT n (⟨b.As.Ak⟩:ql) (⟨b.Ab.Aa,b.Ab.Ah,b.Ab.Af⟩:qb)).bind fun r3 =>
  bif (!r3) then some true else
  some ((b.Ac.length:Int) != (b.Ab.Ah.length:Int))).bind fun b1 =>
 bif b1 then some false else
 (qcI b n 0).bind fun o=>match o with
 | .ret r=>some r
 | .nxt _ =>
  some true
theorem qkN {b:qk} (ha1:GoT.R w (old w) b cs1) {r:Bool} (hF:qgF n b=some r):RetV Tryz.prog 51 [GoT.v qk cs1] w r:=by
 obtain ⟨p1,k1,p2,k2,p3,k3,p4,k4,p5,k5,rfl,s1,s2,s3,s4,s5⟩:=qY ha1
 refine zV 39 Tryz.func51 rfl fun h=>zSR (qt h rfl rfl fun w1 bb1 h=>X0 4 rfl ?_)
 obtain ⟨KF1,hKF1,o2,hF,hK2⟩:=bindE hF
 refine qcy (fun e w'=>∃ (b1:Bool),KF1 b1=some r∧e=[(1,.pointer (some ⟨bb1,0,none⟩)),(19,.bool b1)]∧SH w w' [Ch.box bb1 (qbL b p1 p2 p3 p4 p5 k1 k2 k3 k4 k5) 48]) ?_ ?_
 ·refine X2 5 0 0 h rfl (zcB h hF (qkn (qdj _ (h.oldS s1)) (qaJ _ (h.oldS s2) (h.oldS s3) (h.oldS s4))) rfl fun r3 w6 h hF=>zp2 rfl (qd (t:=10) hF rfl ?_ ?_))<;>intro hF
  ·refine X0 10 rfl ?_
   obtain rfl:=qa hF
   exact rG ⟨_,hK2,rfl,h⟩ rfl
  refine X2 18 0 0 h rfl ?_
  obtain rfl:=qa hF
  exact rG ⟨_,hK2,rfl,h⟩ rfl
 rintro e2 w7 ⟨b1,hF,rfl,h⟩
 subst hKF1
 refine qf rfl hF ?_ ?_<;>intro hF
 ·exact X0 4 rfl (rb h hF rfl)
 refine X0 6 rfl ?_
 obtain ⟨o1,hF,hK1⟩:=qg hF
 refine qm (rL (fun m e w'=>∃ (i1:Int),qcI b m i1=some o1∧e=[(1,.pointer (some ⟨bb1,0,none⟩)),(3,.int .i64 i1)]∧SH w w' [Ch.box bb1 (qbL b p1 p2 p3 p4 p5 k1 k2 k3 k4 k5) 48]) n ⟨_,hF,rfl,h⟩ rfl ?_)
 rintro m1 e1 w2 ⟨i1,hF,rfl,h⟩
 rcases m1 with _|m1
 ·cases hF
 refine X1 9 0 h rfl (qf rfl hF ?_ ?_)<;>intro hF
 ·refine X0 4 rfl (rA [] [0] h rfl fun w3 h=>M1 7 [0,1,2] 0 (h.pick [0] rfl) rfl ?_)
  obtain ⟨y1,hy1,hF,he1,b2,_,q1,cs2,hp1,hq1,hr1,hc3⟩:=s5.ix hF
  obtain ⟨p6,k6,p7,k7,p8,k8,p9,k9,rfl,s6,s7,s8,s9⟩:=qaN hr1
  refine Ae 3 15 hp1 hq1 he1 (h.pick [0] rfl) rfl (Al 4 31 0 hc3 (h.pick [0] rfl) rfl (M1 255 [5,6,7] 0 (h.pick [0] rfl) rfl (Ao 8 511 rfl (zcL h hF (qkg (qaJ _ (h.oldS s2) (h.oldS s3) (h.oldS s4))) rfl fun r1 w4 S1 p10 k10 h hF=>G0 1023 [9] (h.pick [1] rfl) rfl (Ao 10 2047 rfl (zcB h hF (qlr (qgM y1 (h.oldS s6) (h.oldS s7) (h.oldS s8) (h.oldS s9))) rfl fun r2 w5 h hF=>G0 4095 [11] (h.pick [1] rfl) rfl (Ad (qf rfl hF ?_ ?_))))))))<;>intro hF
  ·refine X0 4 rfl ?_
   obtain rfl:=qa hF;replace hF:=hK1
   exact rb h hF rfl
  refine X0 7 rfl ?_
  replace h:=h.pick [1] rfl
  exact rK ⟨_,hF,rfl,h⟩ rfl
 refine qr rfl ?_
 obtain rfl:=qa hF;replace hF:=hK1
 exact X0 4 rfl (rb h hF rfl)
def qaj (_:Nat) (x:Int) (low:Int) (high:Int):Option Bool :=
 bif decide (x ≥ low) then some (decide (x≤high)) else
 some false
theorem qZ {x:Int} {low:Int} {high:Int}  {r:Bool} (hF:qaj n x low high=some r):RetV Tryz.prog 114 [.int .i64 x,.int .i64 low,.int .i64 high] w r:=by
 refine zV 15 Tryz.func114 rfl fun h=>X0 10 rfl (qd (t:=10) hF rfl ?_ ?_)<;>intro hF
 ·exact X0 9 rfl (rb h hF rfl)
 exact X0 6 rfl (rb h hF rfl)
def qeO (_:Nat) (list:(List ByteArray)):Option Int :=
 some (list.length:Int)
theorem qid {list:(List ByteArray)} (ha1:GoT.R w (old w) list cs1) {r:Int} (hF:qeO n list=some r):RetV Tryz.prog 160 [GoT.v (List ByteArray) cs1] w r:=by
 obtain ⟨p1,k1,rfl,s1⟩:=ha1
 exact zV 5 Tryz.func160 rfl fun h=>X0 10 rfl (ri h hF rfl)
def qbj (n:Nat) (d:qb) (net:Int):Option Bool :=
 (qeO n d.Ah).bind fun r1 =>
 (qaj n net 0 (W64 (r1-1))).bind fun r2 =>
 some r2
theorem qcR {d:qb} {net:Int} (ha1:GoT.R w (old w) d cs1) {r:Bool} (hF:qbj n d net=some r):RetV Tryz.prog 78 [GoT.v qb cs1,.int .i64 net] w r:=by
 obtain ⟨p1,k1,p2,k2,p3,k3,rfl,s1,s2,s3⟩:=qW ha1
 exact zV 11 Tryz.func78 rfl fun h=>zSR (qt h rfl rfl fun w1 bb1 h=>X1 7 0 h rfl (zcI h hF (qid ⟨_,_,rfl,(h.oldS s2)⟩) rfl fun r1 w2 h hF=>zp1 rfl (zcB h hF qZ rfl fun r2 w3 h hF=>X0 2 rfl (rb h hF rfl))))
def qfk (_:Nat) (s cutset:ByteArray):Option ByteArray :=
 if s.size≤9223372036854775807∧cutset.size<4294967281∧cutset.data.toList.all (fun b=>decide (b.toNat<128))=true then some ⟨(Lib.trimS s.data.toList cutset.data.toList).toArray⟩ else none
theorem qkR {s cutset:ByteArray} {r:ByteArray} (hF:qfk n s cutset=some r):RetV Tryz.prog 239 [.string s,.string cutset] w r:=by
 unfold qfk at hF
 split at hF
 ·rename_i hh
  obtain rfl:=qa hF
  refine (Tryz.strings_Trim_any s cutset w hh.1 hh.2.1 hh.2.2).mono ?_
  rintro e w' ⟨rfl,hB⟩
  exact ⟨_,rfl,hB,[.string _],rfl,qr1 _ _⟩
 cases hF
def qdX (_:Nat) (s:ByteArray) (c:(IntK .u8)):Option Int :=
 some (Lib.indexByte s.data.toList c.val.toNat.toUInt8)
theorem qiK {s:ByteArray} {c:(IntK .u8)} {r:Int} (hF:qdX n s c=some r):RetV Tryz.prog 240 [.string s,.int .u8 c.val] w r:=by
 obtain rfl:=qa hF
 refine (Tryz.strings_IndexByte s c.val w).mono ?_
 rintro e w' ⟨rfl,rfl⟩
 exact ⟨_,rfl,Below.refl _ _,[.int .i64 _],rfl,qpx _ _⟩
def qge (n:Nat) (s:ByteArray):Option Bool :=
 (qaj n (s.size:Int) 1 8).bind fun r1 =>
 bif r1 then
  (qfk n s (⟨#[97,98,99,100,101,102,103,104,105,106,107,108,109,110,111,112,113,114,115,116,117,118,119,120,121,122,48,49,50,51,52,53,54,55,56,57]⟩:ByteArray)).bind fun r2 =>
  bif (r2.toList==(⟨#[]⟩:ByteArray).toList) then
   (atS s 0).bind fun y1 =>
   (qdX n (⟨#[97,98,99,100,101,102,103,104,105,106,107,108,109,110,111,112,113,114,115,116,117,118,119,120,121,122]⟩:ByteArray) (⟨y1⟩:IntK .u8)).bind fun r3 =>
   some (decide (r3 ≥ 0))
  else
   some false
 else
  some false
theorem qiE {s:ByteArray}  {r:Bool} (hF:qge n s=some r):RetV Tryz.prog 178 [.string s] w r:=by
 refine zV 17 Tryz.func178 rfl fun h=>X0 8 rfl (zcB h hF qZ rfl fun r1 w1 h hF=>zp1 rfl (qd (t:=6) hF rfl ?_ ?_))<;>intro hF
 ·refine X0 3 rfl (zcS h hF qkR rfl fun r2 w2 h hF=>X0 4 rfl (qd (t:=11) hF rfl ?_ ?_))<;>intro hF
  ·refine X0 3 rfl ?_
   obtain ⟨y1,hx1,hF⟩:=qg hF
   have g1:=qiw hx1
   exact r_v (qiC qc g1 rfl rfl rfl rfl) rfl (X0 1 rfl (zcI h hF qiK rfl fun r3 w3 h hF=>X0 5 rfl (rb h hF rfl)))
  exact X0 7 rfl (rb h hF rfl)
 exact X0 12 rfl (rb h hF rfl)
def qa5 (_:Nat) (list:(List qR)):Option Int :=
 some (list.length:Int)
theorem qeT {list:(List qR)} (ha1:GoT.R w (old w) list cs1) {r:Int} (hF:qa5 n list=some r):RetV Tryz.prog 254 [GoT.v (List qR) cs1] w r:=by
 obtain ⟨p1,k1,rfl,s1⟩:=ha1
 exact zV 5 Tryz.func254 rfl fun h=>X0 10 rfl (ri h hF rfl)
def qaV (s:(List ByteArray)) (v:ByteArray):Nat→Int→Option (Flow Int Int)
 | 0,_=>none
 | n+1,i1 =>
  bif decide (i1<(s.length:Int)) then
   (idx s i1).bind fun y1 =>
   bif (v.toList==y1.toList) then some (.ret i1) else
   qaV s v n (W64 (i1+1))
  else
   some (.nxt i1)
def qc0 (n:Nat) (s:(List ByteArray)) (v:ByteArray):Option Int :=
 (qaV s v n 0).bind fun o=>match o with
 | .ret r=>some r
 | .nxt _ =>
  some (-1)
theorem qhT {s:(List ByteArray)} {v:ByteArray} (ha1:GoT.R w (old w) s cs1) {r:Int} (hF:qc0 n s v=some r):RetV Tryz.prog 323 [GoT.v (List ByteArray) cs1,.string v] w r:=by
 obtain ⟨p1,k1,rfl,s1⟩:=ha1
 refine zV 19 Tryz.func323 rfl fun h=>X0 11 rfl ?_
 obtain ⟨o1,hF,hK1⟩:=qg hF
 refine qm (rL (fun m e w'=>∃ (i1:Int),qaV s v m i1=some o1∧e=[(0,.slice p1 s.length k1),(1,.string v),(7,.int .i64 (s.length:Int)),(8,.int .i64 i1)]∧SH w w' []) n ⟨_,hF,rfl,h⟩ rfl ?_)
 rintro m1 e1 w1 ⟨i1,hF,rfl,h⟩
 rcases m1 with _|m1
 ·cases hF
 refine X0 5 rfl (qf rfl hF ?_ ?_)<;>intro hF
 ·refine X0 13 rfl ?_
  obtain ⟨y1,hy1,hF,he1,b1,_,q1,cs2,hp1,hq1,rfl,hc2⟩:=s1.ix hF
  refine zxe hp1 hq1 he1 rfl (zc 0 (hc2.below h.below) rfl (X0 2 rfl (qf rfl hF ?_ ?_)))<;>intro hF
  ·refine X0 5 rfl ?_
   obtain rfl:=qa hF;replace hF:=hK1
   exact ri h hF rfl
  exact X0 6 rfl (rK ⟨_,hF,rfl,h⟩ rfl)
 refine qr rfl ?_
 obtain rfl:=qa hF;replace hF:=hK1
 exact X0 4 rfl (ri h hF rfl)
def qcc (n:Nat) (s:(List ByteArray)) (v:ByteArray):Option Bool :=
 (qc0 n s v).bind fun r1 =>
 some (decide (r1 ≥ 0))
theorem qhb {s:(List ByteArray)} {v:ByteArray} (ha1:GoT.R w (old w) s cs1) {r:Bool} (hF:qcc n s v=some r):RetV Tryz.prog 303 [GoT.v (List ByteArray) cs1,.string v] w r:=by
 obtain ⟨p1,k1,rfl,s1⟩:=ha1
 exact zV 9 Tryz.func303 rfl fun h=>X0 8 rfl (zcI h hF (qhT ⟨_,_,rfl,(h.oldS s1)⟩) rfl fun r1 w1 h hF=>X0 3 rfl (rb h hF rfl))
def qcm (list:(List ByteArray)):Nat→Int→Option (Flow Bool Int)
 | 0,_=>none
 | n+1,i1 =>
  bif decide (i1<(list.length:Int)) then
   (idx list i1).bind fun y1 =>
   (qge n y1).bind fun r1 =>
   bif (!r1) then some (.ret false) else
   (subS list 0 i1).bind fun x1 =>
   (qcc n x1 y1).bind fun r2 =>
   bif r2 then some (.ret false) else
   qcm list n (W64 (i1+1))
  else
   some (.nxt i1)
def qce (n:Nat) (list:(List ByteArray)):Option Bool :=
 (qcm list n 0).bind fun o=>match o with
 | .ret r=>some r
 | .nxt _ =>
  some true
theorem qdf {list:(List ByteArray)} (ha1:GoT.R w (old w) list cs1) {r:Bool} (hF:qce n list=some r):RetV Tryz.prog 262 [GoT.v (List ByteArray) cs1] w r:=by
 obtain ⟨p1,k1,rfl,s1⟩:=ha1
 refine zV 23 Tryz.func262 rfl fun h=>X0 11 rfl ?_
 obtain ⟨o1,hF,hK1⟩:=qg hF
 refine qm (rL (fun m e w'=>∃ (i1:Int),qcm list m i1=some o1∧e=[(0,.slice p1 list.length k1),(5,.slice p1 list.length k1),(6,.int .i64 (list.length:Int)),(7,.int .i64 i1)]∧SH w w' []) n ⟨_,hF,rfl,h⟩ rfl ?_)
 rintro m1 e1 w1 ⟨i1,hF,rfl,h⟩
 rcases m1 with _|m1
 ·cases hF
 refine X0 5 rfl (qf rfl hF ?_ ?_)<;>intro hF
 ·refine X0 6 rfl ?_
  obtain ⟨y1,hy1,hF,he1,b1,_,q1,cs2,hp1,hq1,rfl,hc2⟩:=s1.ix hF
  refine zxe hp1 hq1 he1 rfl (zc 0 (hc2.below h.below) rfl (X0 6 rfl (zcB h hF qiE rfl fun r1 w2 h hF=>zp2 rfl (qd (t:=15) hF rfl ?_ ?_))))<;>intro hF
  ·refine X0 7 rfl (qbH rfl rfl (X0 4 rfl ?_))
   obtain rfl:=qa hF;replace hF:=hK1
   exact rb h hF rfl
  refine X0 5 rfl ?_
  obtain ⟨x1,hx1,hF⟩:=qg hF
  obtain ⟨p2,k2,hp2,hk1,hl1,g1⟩:=qqA (h.oldS s1) hx1
  refine r_v (qnw qc rfl rfl rfl (qpN g1 rfl) hp2 hk1 hl1 rfl rfl rfl rfl) rfl ?_
  have s2:=qqv s1 hx1 hp2 hk1
  refine X0 3 rfl (zcB h hF (qhb ⟨_,_,rfl,(h.oldS s2)⟩) rfl fun r2 w3 h hF=>X0 2 rfl (qf rfl hF ?_ ?_))<;>intro hF
  ·refine X0 4 rfl ?_
   obtain rfl:=qa hF;replace hF:=hK1
   exact rb h hF rfl
  exact X0 6 rfl (rK ⟨_,hF,rfl,h⟩ rfl)
 refine qr rfl ?_
 obtain rfl:=qa hF;replace hF:=hK1
 exact X0 4 rfl (rb h hF rfl)
def qbv (list:(List qR)):Nat→(List ByteArray)→Int→Option (Flow Bool ((List ByteArray) × Int))
 | 0,_,_=>none
 | n+1,x1,i1 =>
  bif decide (i1<(list.length:Int)) then
   (idx list i1).bind fun y1 =>
   (appS x1 ([y1.Ar]:List ByteArray)).bind fun x2 =>
   bif (i1==(W64 ((list.length:Int)-1))) then
    bif (y1.Bm != 2) then some (.ret false) else
    bif (y1.Bk != 0) then some (.ret false) else
    bif y1.Bf then some (.ret false) else
    qbv list n x2 (W64 (i1+1))
   else
    bif (y1.Bm != 1) then some (.ret false) else
    (qaj n y1.Bk 0 500).bind fun r1 =>
    bif (!r1) then some (.ret false) else
    qbv list n x2 (W64 (i1+1))
  else
   some (.nxt (x1,i1))
def qgt (n:Nat) (list:(List qR)):Option Bool :=
 (qbv list n ([]:List ByteArray) 0).bind fun o=>match o with
 | .ret r=>some r
 | .nxt (x1,_) =>
  (qa5 n list).bind fun r2 =>
  (qaj n r2 2 5).bind fun r3 =>
  bif r3 then
   (qce n x1).bind fun r4 =>
   some r4
  else
   some false
theorem qkE {list:(List qR)} (ha1:GoT.R w (old w) list cs1) {r:Bool} (hF:qgt n list=some r):RetV Tryz.prog 300 [GoT.v (List qR) cs1] w r:=by
 obtain ⟨p1,k1,rfl,s1⟩:=ha1
 refine zV 52 Tryz.func300 rfl fun h=>X0 15 rfl ?_
 replace h:=h.nil (α:=ByteArray)
 obtain ⟨o1,hF,hK1⟩:=qg hF
 refine qm (rL (fun m e w'=>∃ (S1:Nat→Prop) (p2:Option Addr) (ln1:Nat) (k2:Nat) (x1:(List ByteArray)) (i1:Int),qbv list m x1 i1=some o1∧e=[(0,.slice p1 list.length k1),(3,.slice p2 ln1 k2),(6,.slice p1 list.length k1),(7,.int .i64 (list.length:Int)),(8,.int .i64 i1)]∧SH w w' [Ch.own S1 (x1:List ByteArray) [.slice p2 ln1 k2]]) n ⟨_,_,_,_,_,_,hF,rfl,h⟩ rfl ?_)
 rintro m1 e1 w1 ⟨S1,p2,ln1,k2,x1,i1,hF,rfl,h⟩
 obtain rfl:=(h.sl 0 rfl).2
 rcases m1 with _|m1
 ·cases hF
 refine X0 5 rfl (qf rfl hF ?_ ?_)<;>intro hF
 ·refine X0 6 rfl ?_
  obtain ⟨y1,hy1,hF,he1,b1,_,q1,cs2,hp1,hq1,hr1,hc2⟩:=s1.ix hF
  obtain rfl:=qaG hr1
  refine zxe hp1 hq1 he1 rfl (zc 0 (hc2.below h.below) rfl (qv qc h rfl rfl rfl fun w2 bb1 h=>zp1 rfl (zs 0 h rfl fun w3 h=>X1 6 0 h rfl (qal qc [.tmp 15] _ ([y1.Ar]:List ByteArray) h rfl rfl rfl rfl rfl rfl rfl rfl rfl ⟨rfl,trivial⟩ rfl fun w4 p3 S2 h=>?_))))
  obtain ⟨x2,hx1,hF⟩:=qg hF
  obtain ⟨g1,hx1⟩:=qaP hx1
  refine qdT qc 2 h rfl (h.sl 0 rfl).1 (h.sl 0 rfl).2 rfl rfl rfl rfl rfl rfl rfl rfl rfl g1 hx1 rfl fun w5 p4 k3 S3 h=>X0 10 rfl (qf rfl hF ?_ ?_)<;>intro hF
  ·refine X1 6 1 h rfl (qd (t:=26) hF rfl ?_ ?_)<;>intro hF
   ·refine X0 9 rfl (qbH rfl rfl (X0 4 rfl ?_))
    obtain rfl:=qa hF;replace hF:=hK1
    exact rb h hF rfl
   refine X1 8 1 h rfl (qd (t:=31) hF rfl ?_ ?_)<;>intro hF
   ·refine X0 4 rfl (qbH rfl rfl (X0 4 rfl ?_))
    obtain rfl:=qa hF;replace hF:=hK1
    exact rb h hF rfl
   refine X1 6 1 h rfl (qf rfl hF ?_ ?_)<;>intro hF
   ·refine X0 4 rfl ?_
    obtain rfl:=qa hF;replace hF:=hK1
    exact rb h hF rfl
   refine X0 6 rfl ?_
   replace h:=h.pick [2] rfl
   exact rK ⟨_,_,_,_,_,_,hF,rfl,h⟩ rfl
  refine X1 6 1 h rfl (qd (t:=38) hF rfl ?_ ?_)<;>intro hF
  ·refine X0 6 rfl (qbH rfl rfl (X0 4 rfl ?_))
   obtain rfl:=qa hF;replace hF:=hK1
   exact rb h hF rfl
  refine X1 5 1 h rfl (zcB h hF qZ rfl fun r1 w6 h hF=>X0 4 rfl (qf rfl hF ?_ ?_))<;>intro hF
  ·refine X0 4 rfl ?_
   obtain rfl:=qa hF;replace hF:=hK1
   exact rb h hF rfl
  refine X0 6 rfl ?_
  replace h:=h.pick [2] rfl
  exact rK ⟨_,_,_,_,_,_,hF,rfl,h⟩ rfl
 refine qr rfl ?_
 obtain rfl:=qa hF;replace hF:=hK1
 refine X0 3 rfl (zcI h hF (qeT ⟨_,_,rfl,(h.oldS s1)⟩) rfl fun r2 w7 h hF=>zcB h hF qZ rfl fun r3 w8 h hF=>zp1 rfl (qd (t:=48) hF rfl ?_ ?_))<;>intro hF
 ·exact X0 3 rfl (zcB h hF (qdf (h.own 0 rfl)) rfl fun r4 w9 h hF=>X0 3 rfl (rb h hF rfl))
 exact X0 5 rfl (rb h hF rfl)
def qcp (n:Nat) (c:qn):Option Int :=
 (qa5 n c.Ap).bind fun r1 =>
 some (W64 (r1-1))
theorem qez {c:qn} (ha1:GoT.R w (old w) c cs1) {r:Int} (hF:qcp n c=some r):RetV Tryz.prog 200 [GoT.v qn cs1] w r:=by
 obtain ⟨p1,k1,p2,k2,p3,k3,rfl,s1,s2,s3⟩:=qN ha1
 exact zV 7 Tryz.func200 rfl fun h=>zSR (qt h rfl rfl fun w1 bb1 h=>X1 6 0 h rfl (zcI h hF (qeT ⟨_,_,rfl,(h.oldS s1)⟩) rfl fun r1 w2 h hF=>X0 3 rfl (ri h hF rfl)))
def qgp (_:Nat) (kind:Int):Option Bool :=
 bif (kind==4) then some true else
 some (kind==5)
theorem qkF {kind:Int}  {r:Bool} (hF:qgp n kind=some r):RetV Tryz.prog 334 [.int .i64 kind] w r:=by
 refine zV 9 Tryz.func334 rfl fun h=>X0 9 rfl (qd (t:=5) hF rfl ?_ ?_)<;>intro hF
 ·exact X0 5 rfl (rb h hF rfl)
 exact X0 7 rfl (rb h hF rfl)
def qeq (n:Nat) (a_n:Int) (v0:Int) (v1:Int):Option Bool :=
 (qaj n a_n v0 v1).bind fun r1 =>
 some (!r1)
theorem qi3 {a_n:Int} {v0:Int} {v1:Int} {p1:Option Addr} (ha1:GoT.R w (old w) (some v0) [.pointer p1]) {p2:Option Addr} (ha2:GoT.R w (old w) (some v1) [.pointer p2]) {r:Bool} (hF:qeq n a_n v0 v1=some r):RetV Tryz.prog 180 [.int .i64 a_n,.pointer p1,.pointer p2] w r:=by
 obtain ⟨b1,o_1,cs1,rfl,-,hr1,hc1⟩:=PtR.get ha1 rfl
 obtain rfl:=hr1
 obtain ⟨b2,o_2,cs2,rfl,-,hr2,hc2⟩:=PtR.get ha2 rfl
 obtain rfl:=hr2
 exact zV 10 Tryz.func180 rfl fun h=>X0 7 rfl (zc 0 (hc1.below h.below) rfl (zc 0 (hc2.below h.below) rfl (zcB h hF qZ rfl fun r1 w1 h hF=>X0 3 rfl (rb h hF rfl))))
def qF (s:(List Int)) (f_0:Int) (f_1:Int):Nat→Int→Option (Flow Int Int)
 | 0,_=>none
 | n+1,i1 =>
  bif decide (i1<(s.length:Int)) then
   (idx s i1).bind fun y1 =>
   (qeq n y1 f_0 f_1).bind fun r1 =>
   bif r1 then some (.ret i1) else
   qF s f_0 f_1 n (W64 (i1+1))
  else
   some (.nxt i1)
def qad (n:Nat) (s:(List Int)) (f_0:Int) (f_1:Int):Option Int :=
 (qF s f_0 f_1 n 0).bind fun o=>match o with
 | .ret r=>some r
 | .nxt _ =>
  some (-1)
theorem qdt {s:(List Int)} {f_0:Int} {f_1:Int} (ha1:GoT.R w (old w) s cs1) {p2:Option Addr} (ha2:GoT.R w (old w) (some f_0) [.pointer p2]) {p3:Option Addr} (ha3:GoT.R w (old w) (some f_1) [.pointer p3]) {r:Int} (hF:qad n s f_0 f_1=some r):RetV Tryz.prog 176 [GoT.v (List Int) cs1,.func (.func 180) #[] #[.pointer p2,.pointer p3]] w r:=by
 obtain ⟨p1,k1,rfl,s1⟩:=ha1
 obtain ⟨b1,o_1,cs2,rfl,-,hr1,hc1⟩:=PtR.get ha2 rfl
 obtain rfl:=hr1
 obtain ⟨b2,o_2,cs3,rfl,-,hr2,hc2⟩:=PtR.get ha3 rfl
 obtain rfl:=hr2
 refine zV 19 Tryz.func176 rfl fun h=>X0 11 rfl ?_
 obtain ⟨o1,hF,hK1⟩:=qg hF
 refine qm (rL (fun m e w'=>∃ (i1:Int),qF s f_0 f_1 m i1=some o1∧e=[(0,.slice p1 s.length k1),(1,.func (.func 180) #[] #[.pointer (some ⟨b1,o_1,none⟩),.pointer (some ⟨b2,o_2,none⟩)]),(7,.int .i64 (s.length:Int)),(8,.int .i64 i1)]∧SH w w' []) n ⟨_,hF,rfl,h⟩ rfl ?_)
 rintro m1 e1 w1 ⟨i1,hF,rfl,h⟩
 rcases m1 with _|m1
 ·cases hF
 refine X0 5 rfl (qf rfl hF ?_ ?_)<;>intro hF
 ·refine X0 13 rfl ?_
  obtain ⟨y1,hy1,hF,he1,b3,_,q1,cs4,hp1,hq1,rfl,hc4⟩:=s1.ix hF
  refine zxe hp1 hq1 he1 rfl (zc 0 (hc4.below h.below) rfl (zcB h hF (qi3 (h.old ha2) (h.old ha3)) rfl fun r1 w2 h hF=>qcz (qf rfl hF ?_ ?_)))<;>intro hF
  ·refine X0 5 rfl ?_
   obtain rfl:=qa hF;replace hF:=hK1
   exact ri h hF rfl
  exact X0 6 rfl (rK ⟨_,hF,rfl,h⟩ rfl)
 refine qr rfl ?_
 obtain rfl:=qa hF;replace hF:=hK1
 exact X0 4 rfl (ri h hF rfl)
def qaE (n:Nat) (s:(List Int)) (f_0:Int) (f_1:Int):Option Bool :=
 (qad n s f_0 f_1).bind fun r1 =>
 some (decide (r1 ≥ 0))
theorem qcZ {s:(List Int)} {f_0:Int} {f_1:Int} (ha1:GoT.R w (old w) s cs1) {p2:Option Addr} (ha2:GoT.R w (old w) (some f_0) [.pointer p2]) {p3:Option Addr} (ha3:GoT.R w (old w) (some f_1) [.pointer p3]) {r:Bool} (hF:qaE n s f_0 f_1=some r):RetV Tryz.prog 93 [GoT.v (List Int) cs1,.func (.func 180) #[] #[.pointer p2,.pointer p3]] w r:=by
 obtain ⟨p1,k1,rfl,s1⟩:=ha1
 obtain ⟨b1,o_1,cs2,rfl,-,hr1,hc1⟩:=PtR.get ha2 rfl
 obtain rfl:=hr1
 obtain ⟨b2,o_2,cs3,rfl,-,hr2,hc2⟩:=PtR.get ha3 rfl
 obtain rfl:=hr2
 exact zV 9 Tryz.func93 rfl fun h=>X0 8 rfl (zcI h hF (qdt ⟨_,_,rfl,(h.oldS s1)⟩ (h.old ha2) (h.old ha3)) rfl fun r1 w1 h hF=>X0 3 rfl (rb h hF rfl))
def qbm (n:Nat) (list:(List Int)) (low:Int) (high:Int):Option Bool :=
 (qaE n list low high).bind fun r1 =>
 some (!r1)
theorem qbV {list:(List Int)} {low:Int} {high:Int} (ha1:GoT.R w (old w) list cs1) {r:Bool} (hF:qbm n list low high=some r):RetV Tryz.prog 98 [GoT.v (List Int) cs1,.int .i64 low,.int .i64 high] w r:=by
 obtain ⟨p1,k1,rfl,s1⟩:=ha1
 exact zV 11 Tryz.func98 rfl fun h=>zSR (qt h rfl rfl fun w1 bb1 h=>qt h rfl rfl fun w2 bb2 h=>X0 6 rfl (zcB h hF (qcZ ⟨_,_,rfl,(h.oldS s1)⟩ (qgY (x:=low) 1 h rfl rfl) (qgY (x:=high) 0 h rfl rfl)) rfl fun r1 w3 h hF=>X0 3 rfl (rb h hF rfl)))
def qaC (list:(List Int)):Nat→Int→Option (Flow Bool Int)
 | 0,_=>none
 | n+1,i1 =>
  bif decide (i1<(list.length:Int)) then
   (idx list (W64 (i1-1))).bind fun y1 =>
   (idx list i1).bind fun y2 =>
   bif decide (y1 ≥ y2) then some (.ret false) else
   qaC list n (W64 (i1+1))
  else
   some (.nxt i1)
def qdU (n:Nat) (list:(List Int)):Option Bool :=
 (qaC list n 1).bind fun o=>match o with
 | .ret r=>some r
 | .nxt _ =>
  some true
theorem qiG {list:(List Int)} (ha1:GoT.R w (old w) list cs1) {r:Bool} (hF:qdU n list=some r):RetV Tryz.prog 145 [GoT.v (List Int) cs1] w r:=by
 obtain ⟨p1,k1,rfl,s1⟩:=ha1
 refine zV 20 Tryz.func145 rfl fun h=>X0 9 rfl ?_
 obtain ⟨o1,hF,hK1⟩:=qg hF
 refine qm (rL (fun m e w'=>∃ (i1:Int),qaC list m i1=some o1∧e=[(0,.slice p1 list.length k1),(3,.int .i64 i1)]∧SH w w' []) n ⟨_,hF,rfl,h⟩ rfl ?_)
 rintro m1 e1 w1 ⟨i1,hF,rfl,h⟩
 rcases m1 with _|m1
 ·cases hF
 refine X0 8 rfl (qf rfl hF ?_ ?_)<;>intro hF
 ·refine X0 4 rfl (rD (zd3 rfl ?_))
  obtain ⟨y1,hy1,hF,he1,b1,_,q1,cs2,hp1,hq1,rfl,hc2⟩:=s1.ix hF
  refine zdxe hp1 hq1 he1 rfl (zdc 0 (hc2.below h.below) rfl (zd2 rfl ?_))
  obtain ⟨y2,hy2,hF,he2,b2,_,q2,cs3,hp2,hq2,rfl,hc3⟩:=s1.ix hF
  refine zdxe hp2 hq2 he2 rfl (zdc 0 (hc3.below h.below) rfl (zd1 rfl (dN h fun w2 h=>qf rfl hF ?_ ?_)))<;>intro hF
  ·refine X0 4 rfl ?_
   obtain rfl:=qa hF;replace hF:=hK1
   exact rb h hF rfl
  exact X0 7 rfl (rK ⟨_,hF,rfl,h⟩ rfl)
 refine qr rfl ?_
 obtain rfl:=qa hF;replace hF:=hK1
 exact X0 4 rfl (rb h hF rfl)
def qaA (_:Nat) (list:(List Int)):Option Int :=
 some (list.length:Int)
theorem qa7 {list:(List Int)} (ha1:GoT.R w (old w) list cs1) {r:Int} (hF:qaA n list=some r):RetV Tryz.prog 188 [GoT.v (List Int) cs1] w r:=by
 obtain ⟨p1,k1,rfl,s1⟩:=ha1
 exact zV 5 Tryz.func188 rfl fun h=>X0 10 rfl (ri h hF rfl)
def qf4 (n:Nat) (list:(List Int)):Option Bool :=
 (qaA n list).bind fun r1 =>
 (qaj n r1 1 4).bind fun r2 =>
 bif r2 then
  (qbm n list 0 100000).bind fun r3 =>
  bif r3 then
   (qdU n list).bind fun r4 =>
   some r4
  else
   some false
 else
  some false
theorem qiM {list:(List Int)} (ha1:GoT.R w (old w) list cs1) {r:Bool} (hF:qf4 n list=some r):RetV Tryz.prog 354 [GoT.v (List Int) cs1] w r:=by
 obtain ⟨p1,k1,rfl,s1⟩:=ha1
 refine zV 14 Tryz.func354 rfl fun h=>X0 7 rfl (zcI h hF (qa7 ⟨_,_,rfl,(h.oldS s1)⟩) rfl fun r1 w1 h hF=>zcB h hF qZ rfl fun r2 w2 h hF=>zp1 rfl (qd (t:=6) hF rfl ?_ ?_))<;>intro hF
 ·refine X0 3 rfl (zcB h hF (qbV ⟨_,_,rfl,(h.oldS s1)⟩) rfl fun r3 w3 h hF=>zp2 rfl (qd (t:=10) hF rfl ?_ ?_))<;>intro hF
  ·exact X0 3 rfl (zcB h hF (qiG ⟨_,_,rfl,(h.oldS s1)⟩) rfl fun r4 w4 h hF=>X0 3 rfl (rb h hF rfl))
  exact X0 5 rfl (rb h hF rfl)
 exact X0 9 rfl (rb h hF rfl)
def qgy (n:Nat) (t:qp):Option Bool :=
 (qf4 n t.Bd).bind fun r1 =>
 bif r1 then
  (qf4 n t.Be).bind fun r2 =>
  bif r2 then
   bif ((t.Ay.length:Int)==(W64 ((t.Bd.length:Int)*(t.Be.length:Int)))) then
    (qbm n t.Ay (-1000000) 1000000).bind fun r3 =>
    some r3
   else
    some false
  else
   some false
 else
  some false
theorem qkz {t:qp} (ha1:GoT.R w (old w) t cs1) {r:Bool} (hF:qgy n t=some r):RetV Tryz.prog 348 [GoT.v qp cs1] w r:=by
 obtain ⟨p1,k1,p2,k2,p3,k3,rfl,s1,s2,s3⟩:=qaI ha1
 refine zV 29 Tryz.func348 rfl fun h=>zSR (qt h rfl rfl fun w1 bb1 h=>X1 6 0 h rfl (zcB h hF (qiM ⟨_,_,rfl,(h.oldS s1)⟩) rfl fun r1 w2 h hF=>zp1 rfl (qd (t:=6) hF rfl ?_ ?_)))<;>intro hF
 ·refine X1 5 0 h rfl (zcB h hF (qiM ⟨_,_,rfl,(h.oldS s2)⟩) rfl fun r2 w3 h hF=>zp2 rfl (qd (t:=11) hF rfl ?_ ?_))<;>intro hF
  ·refine X3 24 0 0 0 h rfl (qd (t:=24) hF rfl ?_ ?_)<;>intro hF
   ·exact X1 5 0 h rfl (zcB h hF (qbV ⟨_,_,rfl,(h.oldS s3)⟩) rfl fun r3 w4 h hF=>X0 3 rfl (rb h hF rfl))
   exact X0 6 rfl (rb h hF rfl)
  exact X0 19 rfl (rb h hF rfl)
 exact X0 24 rfl (rb h hF rfl)
def qbr (x:(List Int)):Nat→Int→Int→Option (Int × Int)
 | 0,_,_=>none
 | n+1,i1,i2 =>
  bif decide (i2<(x.length:Int)) then
   (idx x i2).bind fun y2 =>
   qbr x n (if y2<i1 then y2 else i1) (W64 (i2+1))
  else
   some (i1,i2)
def qeu (n:Nat) (x:(List Int)):Option Int :=
 (
  bif decide ((x.length:Int)<1) then none else
  some ()).bind fun _ =>
 (idx x 0).bind fun y1 =>
 (qbr x n y1 1).bind fun o=>match o with
 | (i1,_) =>
  some i1
theorem qi4 {x:(List Int)} (ha1:GoT.R w (old w) x cs1) {r:Int} (hF:qeu n x=some r):RetV Tryz.prog 349 [GoT.v (List Int) cs1] w r:=by
 obtain ⟨p1,k1,rfl,s1⟩:=ha1
 refine zV 25 Tryz.func349 rfl fun h=>X0 11 rfl ?_
 obtain ⟨KF1,hKF1,o2,hF,hK2⟩:=bindE hF
 refine qcy (fun e w'=>KF1 ()=some r∧e=[(0,.slice p1 x.length k1)]∧SH w w' []) ?_ ?_
 ·refine qf rfl hF ?_ ?_<;>intro hF
  ·refine qhI ?_
   cases hF
  refine qgT ?_
  obtain rfl:=qa hF
  exact rG ⟨hK2,rfl,h⟩ rfl
 rintro e2 w2 ⟨hF,rfl,h⟩
 subst hKF1
 refine X0 3 rfl ?_
 obtain ⟨y1,hy1,hF,he1,b1,_,q1,cs2,hp1,hq1,rfl,hc1⟩:=s1.ix hF
 refine zxe hp1 hq1 he1 rfl (zc 0 (hc1.below h.below) rfl (X0 7 rfl ?_))
 obtain ⟨o1,hF,hK1⟩:=qg hF
 refine qm (rL (fun m e w'=>∃ (i1:Int) (i2:Int),qbr x m i1 i2=some o1∧e=[(0,.slice p1 x.length k1),(3,.int .i64 i1),(4,.int .i64 i2)]∧SH w w' []) n ⟨_,_,hF,rfl,h⟩ rfl ?_)
 rintro m1 e1 w1 ⟨i1,i2,hF,rfl,h⟩
 rcases m1 with _|m1
 ·cases hF
 refine X0 8 rfl (qf rfl hF ?_ ?_)<;>intro hF
 ·refine X0 7 rfl ?_
  obtain ⟨y2,hy2,hF,he2,b2,_,q2,cs3,hp2,hq2,rfl,hc3⟩:=s1.ix hF
  exact zxe hp2 hq2 he2 rfl (zc 0 (hc3.below h.below) rfl (X0 9 rfl (rK ⟨_,_,hF,rfl,h⟩ rfl)))
 refine qr rfl ?_
 obtain rfl:=qa hF;replace hF:=hK1
 exact X0 5 rfl (ri h hF rfl)
def qek (n:Nat) (t:qp) (v0:Bool):Option Bool :=
 (qgy n t).bind fun r1 =>
 bif (!r1) then some true else
 bif v0 then
  (qeu n t.Ay).bind fun r2 =>
  some (decide (r2<0))
 else
  some false
theorem qi7 {t:qp} {v0:Bool} (ha1:GoT.R w (old w) t cs1) {p4:Option Addr} (ha2:GoT.R w (old w) (some v0) [.pointer p4]) {r:Bool} (hF:qek n t v0=some r):RetV Tryz.prog 347 [GoT.v qp cs1,.pointer p4] w r:=by
 obtain ⟨p1,k1,p2,k2,p3,k3,rfl,s1,s2,s3⟩:=qaI ha1
 obtain ⟨b1,o_1,cs2,rfl,-,hr1,hc1⟩:=PtR.get ha2 rfl
 obtain rfl:=hr1
 refine zV 16 Tryz.func347 rfl fun h=>zSR (qt h rfl rfl fun w1 bb1 h=>X1 5 0 h rfl (zcB h hF (qkz (h.old ha1)) rfl fun r1 w2 h hF=>zp2 rfl (qd (t:=7) hF rfl ?_ ?_)))<;>intro hF
 ·exact X0 10 rfl (rb h hF rfl)
 refine X0 1 rfl (zc 0 (hc1.below h.below) rfl (X0 2 rfl (qd (t:=9) hF rfl ?_ ?_)))<;>intro hF
 ·exact X1 5 0 h rfl (zcI h hF (qi4 ⟨_,_,rfl,(h.oldS s3)⟩) rfl fun r2 w3 h hF=>X0 7 rfl (rb h hF rfl))
 exact X0 9 rfl (rb h hF rfl)
def qA (s:(List qp)) (f_0:Bool):Nat→Int→Option (Flow Int Int)
 | 0,_=>none
 | n+1,i1 =>
  bif decide (i1<(s.length:Int)) then
   (idx s i1).bind fun y1 =>
   (qek n y1 f_0).bind fun r1 =>
   bif r1 then some (.ret i1) else
   qA s f_0 n (W64 (i1+1))
  else
   some (.nxt i1)
def qV (n:Nat) (s:(List qp)) (f_0:Bool):Option Int :=
 (qA s f_0 n 0).bind fun o=>match o with
 | .ret r=>some r
 | .nxt _ =>
  some (-1)
theorem qcP {s:(List qp)} {f_0:Bool} (ha1:GoT.R w (old w) s cs1) {p2:Option Addr} (ha2:GoT.R w (old w) (some f_0) [.pointer p2]) {r:Int} (hF:qV n s f_0=some r):RetV Tryz.prog 353 [GoT.v (List qp) cs1,.func (.func 347) #[] #[.pointer p2]] w r:=by
 obtain ⟨p1,k1,rfl,s1⟩:=ha1
 obtain ⟨b1,o_1,cs2,rfl,-,hr1,hc1⟩:=PtR.get ha2 rfl
 obtain rfl:=hr1
 refine zV 19 Tryz.func353 rfl fun h=>X0 11 rfl ?_
 obtain ⟨o1,hF,hK1⟩:=qg hF
 refine qm (rL (fun m e w'=>∃ (i1:Int),qA s f_0 m i1=some o1∧e=[(0,.slice p1 s.length k1),(1,.func (.func 347) #[] #[.pointer (some ⟨b1,o_1,none⟩)]),(7,.int .i64 (s.length:Int)),(8,.int .i64 i1)]∧SH w w' []) n ⟨_,hF,rfl,h⟩ rfl ?_)
 rintro m1 e1 w1 ⟨i1,hF,rfl,h⟩
 rcases m1 with _|m1
 ·cases hF
 refine X0 5 rfl (qf rfl hF ?_ ?_)<;>intro hF
 ·refine X0 13 rfl ?_
  obtain ⟨y1,hy1,hF,he1,b2,_,q1,cs3,hp1,hq1,hr2,hc3⟩:=s1.ix hF
  obtain ⟨p3,k2,p4,k3,p5,k4,rfl,s2,s3,s4⟩:=qaI hr2
  refine zxe hp1 hq1 he1 rfl (zc 0 (hc3.below h.below) rfl (zcB h hF (qi7 (qfy y1 (h.oldS s2) (h.oldS s3) (h.oldS s4)) (h.old ha2)) rfl fun r1 w2 h hF=>qcz (qf rfl hF ?_ ?_)))<;>intro hF
  ·refine X0 5 rfl ?_
   obtain rfl:=qa hF;replace hF:=hK1
   exact ri h hF rfl
  exact X0 6 rfl (rK ⟨_,hF,rfl,h⟩ rfl)
 refine qr rfl ?_
 obtain rfl:=qa hF;replace hF:=hK1
 exact X0 4 rfl (ri h hF rfl)
def qaf (n:Nat) (s:(List qp)) (f_0:Bool):Option Bool :=
 (qV n s f_0).bind fun r1 =>
 some (decide (r1 ≥ 0))
theorem qcr {s:(List qp)} {f_0:Bool} (ha1:GoT.R w (old w) s cs1) {p2:Option Addr} (ha2:GoT.R w (old w) (some f_0) [.pointer p2]) {r:Bool} (hF:qaf n s f_0=some r):RetV Tryz.prog 346 [GoT.v (List qp) cs1,.func (.func 347) #[] #[.pointer p2]] w r:=by
 obtain ⟨p1,k1,rfl,s1⟩:=ha1
 obtain ⟨b1,o_1,cs2,rfl,-,hr1,hc1⟩:=PtR.get ha2 rfl
 obtain rfl:=hr1
 exact zV 9 Tryz.func346 rfl fun h=>X0 8 rfl (zcI h hF (qcP ⟨_,_,rfl,(h.oldS s1)⟩ (h.old ha2)) rfl fun r1 w1 h hF=>X0 3 rfl (rb h hF rfl))
def qde (n:Nat) (list:(List qp)) (positive:Bool):Option Bool :=
 bif ((list.length:Int)==2) then
  (qaf n list positive).bind fun r1 =>
  some (!r1)
 else
  some false
theorem qeZ {list:(List qp)} {positive:Bool} (ha1:GoT.R w (old w) list cs1) {r:Bool} (hF:qde n list positive=some r):RetV Tryz.prog 335 [GoT.v (List qp) cs1,.bool positive] w r:=by
 obtain ⟨p1,k1,rfl,s1⟩:=ha1
 refine zV 14 Tryz.func335 rfl fun h=>zSR (qt h rfl rfl fun w1 bb1 h=>X0 8 rfl (qd (t:=8) hF rfl ?_ ?_))<;>intro hF
 ·exact X0 5 rfl (zcB h hF (qcr ⟨_,_,rfl,(h.oldS s1)⟩ (qgY (x:=positive) 0 h rfl rfl)) rfl fun r1 w2 h hF=>X0 5 rfl (rb h hF rfl))
 exact X0 7 rfl (rb h hF rfl)
def qfj (_:Nat) (p:qR):Option Bool :=
 some p.Bf
theorem qiF {p:qR} (ha1:GoT.R w (old w) p cs1) {r:Bool} (hF:qfj n p=some r):RetV Tryz.prog 351 [GoT.v qR cs1] w r:=by
 obtain rfl:=qaG ha1
 exact zV 5 Tryz.func351 rfl fun h=>zSR (qt h rfl rfl fun w1 bb1 h=>X1 8 0 h rfl (rb h hF rfl))
def qB (s:(List qR)):Nat→Int→Option (Flow Int Int)
 | 0,_=>none
 | n+1,i1 =>
  bif decide (i1<(s.length:Int)) then
   (idx s i1).bind fun y1 =>
   (qfj n y1).bind fun r1 =>
   bif r1 then some (.ret i1) else
   qB s n (W64 (i1+1))
  else
   some (.nxt i1)
def qaB (n:Nat) (s:(List qR)):Option Int :=
 (qB s n 0).bind fun o=>match o with
 | .ret r=>some r
 | .nxt _ =>
  some (-1)
theorem qcX {s:(List qR)} (ha1:GoT.R w (old w) s cs1) {r:Int} (hF:qaB n s=some r):RetV Tryz.prog 350 [GoT.v (List qR) cs1,.func (.func 351) #[] #[]] w r:=by
 obtain ⟨p1,k1,rfl,s1⟩:=ha1
 refine zV 19 Tryz.func350 rfl fun h=>X0 11 rfl ?_
 obtain ⟨o1,hF,hK1⟩:=qg hF
 refine qm (rL (fun m e w'=>∃ (i1:Int),qB s m i1=some o1∧e=[(0,.slice p1 s.length k1),(1,.func (.func 351) #[] #[]),(7,.int .i64 (s.length:Int)),(8,.int .i64 i1)]∧SH w w' []) n ⟨_,hF,rfl,h⟩ rfl ?_)
 rintro m1 e1 w1 ⟨i1,hF,rfl,h⟩
 rcases m1 with _|m1
 ·cases hF
 refine X0 5 rfl (qf rfl hF ?_ ?_)<;>intro hF
 ·refine X0 13 rfl ?_
  obtain ⟨y1,hy1,hF,he1,b1,_,q1,cs2,hp1,hq1,hr1,hc2⟩:=s1.ix hF
  obtain rfl:=qaG hr1
  refine zxe hp1 hq1 he1 rfl (zc 0 (hc2.below h.below) rfl (zcB h hF (qiF (qgf y1)) rfl fun r1 w2 h hF=>qcz (qf rfl hF ?_ ?_)))<;>intro hF
  ·refine X0 5 rfl ?_
   obtain rfl:=qa hF;replace hF:=hK1
   exact ri h hF rfl
  exact X0 6 rfl (rK ⟨_,hF,rfl,h⟩ rfl)
 refine qr rfl ?_
 obtain rfl:=qa hF;replace hF:=hK1
 exact X0 4 rfl (ri h hF rfl)
def qeN (n:Nat) (c:qn):Option Int :=
 (qaB n c.Ap).bind fun r1 =>
 some r1
theorem qjt {c:qn} (ha1:GoT.R w (old w) c cs1) {r:Int} (hF:qeN n c=some r):RetV Tryz.prog 336 [GoT.v qn cs1] w r:=by
 obtain ⟨p1,k1,p2,k2,p3,k3,rfl,s1,s2,s3⟩:=qN ha1
 exact zV 6 Tryz.func336 rfl fun h=>zSR (qt h rfl rfl fun w1 bb1 h=>X1 6 0 h rfl (zcI h hF (qcX ⟨_,_,rfl,(h.oldS s1)⟩) rfl fun r1 w2 h hF=>X0 2 rfl (ri h hF rfl)))
def qd0 (n:Nat) (c:qn) (pin:Int):Option Bool :=
 (qcp n c).bind fun r1 =>
 (qaj n pin 0 (W64 (r1-1))).bind fun r2 =>
 some r2
theorem qf1 {c:qn} {pin:Int} (ha1:GoT.R w (old w) c cs1) {r:Bool} (hF:qd0 n c pin=some r):RetV Tryz.prog 337 [GoT.v qn cs1,.int .i64 pin] w r:=by
 obtain ⟨p1,k1,p2,k2,p3,k3,rfl,s1,s2,s3⟩:=qN ha1
 exact zV 10 Tryz.func337 rfl fun h=>zSR (qt h rfl rfl fun w1 bb1 h=>X1 6 0 h rfl (zcI h hF (qez (h.old ha1)) rfl fun r1 w2 h hF=>zp1 rfl (zcB h hF qZ rfl fun r2 w3 h hF=>X0 2 rfl (rb h hF rfl))))
def qeI (n:Nat) (a_0:qn) (a_1:qL):Option Bool :=
 (qgp n a_1.Av).bind fun r1 =>
 bif r1 then
  (
   bif (a_1.Bi==0) then
    bif ((a_1.Az.length:Int)==0) then
     (qde n a_1.Bh false).bind fun r2 =>
     bif r2 then
      (qeN n a_0).bind fun r3 =>
      bif (a_1.Bb==r3) then
       bif decide (a_1.Bb ≥ 0) then
        (qd0 n a_0 a_1.To).bind fun r4 =>
        bif r4 then some (a_1.To != a_1.Bb) else
        some false
       else
        some false
      else
       some false
     else
      some false
    else
     some false
   else
    some false).bind fun b1 =>
  some b1
 else
  (
   (qde n a_1.Bh true).bind fun r6 =>
   bif (!r6) then some true else
   (qde n a_1.Az true).bind fun r7 =>
   bif (!r7) then some true else
   (qcp n a_0).bind fun r8 =>
   bif (a_1.To != r8) then some true else
   (qd0 n a_0 a_1.Bb).bind fun r9 =>
   some (!r9)).bind fun b2 =>
  bif b2 then some false else
  bif (a_1.Av==1) then
   (idx a_0.Ap a_1.Bb).bind fun y1 =>
   bif (!y1.Bf) then
    (qaj n a_1.Bi 1 3).bind fun r5 =>
    some r5
   else
    some false
  else
   (
    bif (a_1.Av==2) then some (a_1.Av==2) else
    some (a_1.Av==3)).bind fun b4 =>
   bif b4 then
    (idx a_0.Ap a_1.Bb).bind fun y2 =>
    bif y2.Bf then some (a_1.Bi==0) else
    some false
   else
    some false
theorem qjj {a_0:qn} {a_1:qL} (ha1:GoT.R w (old w) a_0 cs1) (ha2:GoT.R w (old w) a_1 cs2) {r:Bool} (hF:qeI n a_0 a_1=some r):RetV Tryz.prog 319 [GoT.v qn cs1,GoT.v qL cs2] w r:=by
 obtain ⟨p1,k1,p2,k2,p3,k3,rfl,s1,s2,s3⟩:=qN ha1
 obtain ⟨p4,k4,p5,k5,rfl,s4,s5⟩:=qab ha2
 refine zV 103 Tryz.func319 rfl fun h=>zSR (qt h rfl rfl fun w1 bb1 h=>qt h rfl rfl fun w2 bb2 h=>X1 7 0 h rfl (zcB h hF qkF rfl fun r1 w3 h hF=>qcz (qf rfl hF ?_ ?_)))<;>intro hF
 ·refine qd1 ?_
  obtain ⟨KF1,hKF1,o1,hF,hK1⟩:=bindE hF
  refine qcy (fun e w'=>∃ (b1:Bool),KF1 b1=some r∧e=[(4,.bool b1)]∧SH w w' []) ?_ ?_
  ·refine rD (Y1 2 0 h rfl ?_)
   refine zd2 rfl (qa2 (t:=11) hF rfl ?_ ?_)<;>intro hF
   ·refine Y1 4 0 h rfl ?_
    refine Y0 6 rfl (qa2 (t:=17) hF rfl ?_ ?_)<;>intro hF
    ·refine Y1 4 0 h rfl ?_
     refine Y0 1 rfl ?_
     obtain ⟨r2,hr2,hF⟩:=qg hF
     refine qbn r2 (vsB _) (cB 335 rfl) (fun _ hb=>qeZ ⟨_,_,rfl,((h.ext hb).oldS s4)⟩ hr2) rfl rfl rfl rfl (zd2 rfl (qa2 (t:=22) hF rfl ?_ ?_))<;>intro hF
     ·refine Y1 4 0 h rfl ?_
      refine Y1 2 1 h rfl ?_
      refine Y0 1 rfl ?_
      obtain ⟨r3,hr3,hF⟩:=qg hF
      refine qbn r3 (vsI _) (cB 336 rfl) (fun _ hb=>qjt ((h.ext hb).old ha1) hr3) rfl rfl rfl rfl (Y0 4 rfl (qa2 (t:=29) hF rfl ?_ ?_))<;>intro hF
      ·refine Y1 4 0 h rfl ?_
       refine Y0 4 rfl (qa2 (t:=34) hF rfl ?_ ?_)<;>intro hF
       ·refine Y1 2 1 h rfl ?_
        refine Y1 4 0 h rfl ?_
        refine Y0 1 rfl ?_
        obtain ⟨r4,hr4,hF⟩:=qg hF
        refine qbn r4 (vsB _) (cB 337 rfl) (fun _ hb=>qf1 ((h.ext hb).old ha1) hr4) rfl rfl rfl rfl (zd2 rfl (qa2 (t:=40) hF rfl ?_ ?_))<;>intro hF
        ·refine Y1 4 0 h rfl ?_
         refine Y1 4 0 h rfl ?_
         refine Y0 4 rfl (dN h fun w4 h=>?_)
         replace h:=h.pick [] rfl
         obtain rfl:=qa hF
         exact rG ⟨_,hK1,rfl,h⟩ rfl
        refine Y0 7 rfl (dN h fun w5 h=>?_)
        replace h:=h.pick [] rfl
        obtain rfl:=qa hF
        exact rG ⟨_,hK1,rfl,h⟩ rfl
       refine Y0 13 rfl (dN h fun w6 h=>?_)
       replace h:=h.pick [] rfl
       obtain rfl:=qa hF
       exact rG ⟨_,hK1,rfl,h⟩ rfl
      refine Y0 18 rfl (dN h fun w7 h=>?_)
      replace h:=h.pick [] rfl
      obtain rfl:=qa hF
      exact rG ⟨_,hK1,rfl,h⟩ rfl
     refine Y0 25 rfl (dN h fun w8 h=>?_)
     replace h:=h.pick [] rfl
     obtain rfl:=qa hF
     exact rG ⟨_,hK1,rfl,h⟩ rfl
    refine Y0 30 rfl (dN h fun w9 h=>?_)
    replace h:=h.pick [] rfl
    obtain rfl:=qa hF
    exact rG ⟨_,hK1,rfl,h⟩ rfl
   refine Y0 36 rfl (dN h fun w10 h=>?_)
   replace h:=h.pick [] rfl
   obtain rfl:=qa hF
   exact rG ⟨_,hK1,rfl,h⟩ rfl
  rintro e1 w11 ⟨b1,hF,rfl,h⟩
  subst hKF1
  exact rb h hF rfl
 refine zKSS ?_
 obtain ⟨KF3,hKF3,o3,hF,hK3⟩:=bindE hF
 refine qcy (fun e w'=>∃ (b2:Bool),KF3 b2=some r∧e=[(2,.pointer (some ⟨bb1,0,none⟩)),(3,.pointer (some ⟨bb2,0,none⟩)),(70,.bool b2)]∧SH w w' [Ch.box bb2 (qh3 a_1 p4 p5 k4 k5) 266,Ch.box bb1 (qcd a_0 p1 p2 p3 k1 k2 k3) 263]) ?_ ?_
 ·refine rD (Y1 2 0 h rfl ?_)
  obtain ⟨r6,hr8,hF⟩:=qg hF
  refine qbn r6 (vsB _) (cB 335 rfl) (fun _ hb=>qeZ ⟨_,_,rfl,((h.ext hb).oldS s4)⟩ hr8) rfl rfl rfl rfl (zd2 rfl (qa2 (t:=51) hF rfl ?_ ?_))<;>intro hF
  ·refine Y0 19 rfl (dN h fun w14 h=>?_)
   obtain rfl:=qa hF
   exact rG ⟨_,hK3,rfl,h⟩ rfl
  refine Y1 4 0 h rfl ?_
  refine Y0 1 rfl ?_
  obtain ⟨r7,hr9,hF⟩:=qg hF
  refine qbn r7 (vsB _) (cB 335 rfl) (fun _ hb=>qeZ ⟨_,_,rfl,((h.ext hb).oldS s5)⟩ hr9) rfl rfl rfl rfl (Y0 4 rfl (qa2 (t:=57) hF rfl ?_ ?_))<;>intro hF
  ·refine Y0 13 rfl (dN h fun w15 h=>?_)
   obtain rfl:=qa hF
   exact rG ⟨_,hK3,rfl,h⟩ rfl
  refine Y1 4 0 h rfl ?_
  refine Y1 2 1 h rfl ?_
  refine Y0 1 rfl ?_
  obtain ⟨r8,hr10,hF⟩:=qg hF
  refine qbn r8 (vsI _) (cB 200 rfl) (fun _ hb=>qez ((h.ext hb).old ha1) hr10) rfl rfl rfl rfl (Y0 4 rfl (qa2 (t:=64) hF rfl ?_ ?_))<;>intro hF
  ·refine Y0 6 rfl (dN h fun w16 h=>?_)
   obtain rfl:=qa hF
   exact rG ⟨_,hK3,rfl,h⟩ rfl
  refine Y1 2 1 h rfl ?_
  refine Y1 4 0 h rfl ?_
  refine Y0 1 rfl ?_
  obtain ⟨r9,hr11,hF⟩:=qg hF
  refine qbn r9 (vsB _) (cB 337 rfl) (fun _ hb=>qf1 ((h.ext hb).old ha1) hr11) rfl rfl rfl rfl (Y0 3 rfl (dN h fun w17 h=>?_))
  obtain rfl:=qa hF
  exact rG ⟨_,hK3,rfl,h⟩ rfl
 rintro e3 w18 ⟨b2,hF,rfl,h⟩
 subst hKF3
 refine qf rfl hF ?_ ?_<;>intro hF
 ·exact X0 4 rfl (rb h hF rfl)
 refine X1 13 0 h rfl (qf rfl hF ?_ ?_)<;>intro hF
 ·refine X2 6 1 0 h rfl ?_
  obtain ⟨y1,hy1,hF,he1,b3,_,q1,cs3,hp1,hq1,hr5,hc4⟩:=s1.ix hF
  obtain rfl:=qaG hr5
  refine zxe hp1 hq1 he1 rfl (zp1 rfl (zc 3 (hc4.below h.below) rfl (zp2 rfl (qd (t:=83) hF rfl ?_ ?_))))<;>intro hF
  ·exact X1 5 0 h rfl (zcB h hF qZ rfl fun r5 w12 h hF=>X0 3 rfl (rb h hF rfl))
  exact X0 6 rfl (rb h hF rfl)
 refine X0 6 rfl ?_
 obtain ⟨KF2,hKF2,o2,hF,hK2⟩:=bindE hF
 refine qcy (fun e w'=>∃ (b4:Bool),KF2 b4=some r∧e=[(2,.pointer (some ⟨bb1,0,none⟩)),(3,.pointer (some ⟨bb2,0,none⟩)),(88,.bool b4)]∧SH w w' [Ch.box bb2 (qh3 a_1 p4 p5 k4 k5) 266,Ch.box bb1 (qcd a_0 p1 p2 p3 k1 k2 k3) 263]) ?_ ?_
 ·refine qf rfl hF ?_ ?_<;>intro hF
  ·refine qgT ?_
   obtain rfl:=qa hF
   exact rG ⟨_,hK2,rfl,h⟩ rfl
  refine X0 4 rfl ?_
  obtain rfl:=qa hF
  exact rG ⟨_,hK2,rfl,h⟩ rfl
 rintro e2 w13 ⟨b4,hF,rfl,h⟩
 subst hKF2
 refine qf rfl hF ?_ ?_<;>intro hF
 ·refine X2 6 1 0 h rfl ?_
  obtain ⟨y2,hy2,hF,he2,b5,_,q2,cs4,hp2,hq2,hr7,hc6⟩:=s1.ix hF
  obtain rfl:=qaG hr7
  refine zxe hp2 hq2 he2 rfl (zp1 rfl (zc 3 (hc6.below h.below) rfl (zp1 rfl (qd (t:=98) hF rfl ?_ ?_))))<;>intro hF
  ·exact X1 9 0 h rfl (rb h hF rfl)
  exact X0 6 rfl (rb h hF rfl)
 exact X0 6 rfl (rb h hF rfl)
end Go.Fw


namespace Go.Fw
open Go Go.Proofs
open Go.RowKit (Below)
set_option maxRecDepth 100000
set_option maxHeartbeats 1600000
variable {n:Nat} {w:World} {cs1 cs2 cs3 cs4 cs5 cs6 cs7 cs8 cs9:List Value}
def qc2 (_:Nat) (a_o:qL) (v0:qL):Option Bool :=
 bif (a_o.Av==v0.Av) then
  bif (a_o.Bb==v0.Bb) then some (a_o.To==v0.To) else
  some false
 else
  some false
theorem qh2 {a_o:qL} {v0:qL} (ha1:GoT.R w (old w) a_o cs1) {p3:Option Addr} (ha2:GoT.R w (old w) (some v0) [.pointer p3]) {r:Bool} (hF:qc2 n a_o v0=some r):RetV Tryz.prog 321 [GoT.v qL cs1,.pointer p3] w r:=by
 obtain ⟨p1,k1,p2,k2,rfl,s1,s2⟩:=qab ha1
 obtain ⟨b1,o_1,cs2,rfl,-,hr1,hc1⟩:=PtR.get ha2 rfl
 obtain ⟨p4,k3,p5,k4,rfl,s3,s4⟩:=qab hr1
 refine zV 23 Tryz.func321 rfl fun h=>zSR (qt h rfl rfl fun w1 bb1 h=>X1 7 0 h rfl (zc 0 (hc1.below h.below) rfl (zp2 rfl (qd (t:=9) hF rfl ?_ ?_))))<;>intro hF
 ·refine X1 7 0 h rfl (zc 1 (hc1.below h.below) rfl (X0 4 rfl (qd (t:=16) hF rfl ?_ ?_)))<;>intro hF
  ·exact X1 7 0 h rfl (zc 2 (hc1.below h.below) rfl (X0 5 rfl (rb h hF rfl)))
  exact X0 8 rfl (rb h hF rfl)
 exact X0 15 rfl (rb h hF rfl)
def qy (s:(List qL)) (f_0:qL):Nat→Int→Option (Flow Int Int)
 | 0,_=>none
 | n+1,i1 =>
  bif decide (i1<(s.length:Int)) then
   (idx s i1).bind fun y1 =>
   (qc2 n y1 f_0).bind fun r1 =>
   bif r1 then some (.ret i1) else
   qy s f_0 n (W64 (i1+1))
  else
   some (.nxt i1)
def qam (n:Nat) (s:(List qL)) (f_0:qL):Option Int :=
 (qy s f_0 n 0).bind fun o=>match o with
 | .ret r=>some r
 | .nxt _ =>
  some (-1)
theorem qcB {s:(List qL)} {f_0:qL} (ha1:GoT.R w (old w) s cs1) {p2:Option Addr} (ha2:GoT.R w (old w) (some f_0) [.pointer p2]) {r:Int} (hF:qam n s f_0=some r):RetV Tryz.prog 192 [GoT.v (List qL) cs1,.func (.func 321) #[] #[.pointer p2]] w r:=by
 obtain ⟨p1,k1,rfl,s1⟩:=ha1
 obtain ⟨b1,o_1,cs2,rfl,-,hr1,hc1⟩:=PtR.get ha2 rfl
 obtain ⟨p3,k2,p4,k3,rfl,s2,s3⟩:=qab hr1
 refine zV 19 Tryz.func192 rfl fun h=>X0 11 rfl ?_
 obtain ⟨o1,hF,hK1⟩:=qg hF
 refine qm (rL (fun m e w'=>∃ (i1:Int),qy s f_0 m i1=some o1∧e=[(0,.slice p1 s.length k1),(1,.func (.func 321) #[] #[.pointer (some ⟨b1,o_1,none⟩)]),(7,.int .i64 (s.length:Int)),(8,.int .i64 i1)]∧SH w w' []) n ⟨_,hF,rfl,h⟩ rfl ?_)
 rintro m1 e1 w1 ⟨i1,hF,rfl,h⟩
 rcases m1 with _|m1
 ·cases hF
 refine X0 5 rfl (qf rfl hF ?_ ?_)<;>intro hF
 ·refine X0 13 rfl ?_
  obtain ⟨y1,hy1,hF,he1,b2,_,q1,cs3,hp1,hq1,hr2,hc3⟩:=s1.ix hF
  obtain ⟨p5,k4,p6,k5,rfl,s4,s5⟩:=qab hr2
  refine zxe hp1 hq1 he1 rfl (zc 0 (hc3.below h.below) rfl (zcB h hF (qh2 (qeE y1 (h.oldS s4) (h.oldS s5)) (h.old ha2)) rfl fun r1 w2 h hF=>qcz (qf rfl hF ?_ ?_)))<;>intro hF
  ·refine X0 5 rfl ?_
   obtain rfl:=qa hF;replace hF:=hK1
   exact ri h hF rfl
  exact X0 6 rfl (rK ⟨_,hF,rfl,h⟩ rfl)
 refine qr rfl ?_
 obtain rfl:=qa hF;replace hF:=hK1
 exact X0 4 rfl (ri h hF rfl)
def qQ (n:Nat) (s:(List qL)) (f_0:qL):Option Bool :=
 (qam n s f_0).bind fun r1 =>
 some (decide (r1 ≥ 0))
theorem qci {s:(List qL)} {f_0:qL} (ha1:GoT.R w (old w) s cs1) {p2:Option Addr} (ha2:GoT.R w (old w) (some f_0) [.pointer p2]) {r:Bool} (hF:qQ n s f_0=some r):RetV Tryz.prog 320 [GoT.v (List qL) cs1,.func (.func 321) #[] #[.pointer p2]] w r:=by
 obtain ⟨p1,k1,rfl,s1⟩:=ha1
 obtain ⟨b1,o_1,cs2,rfl,-,hr1,hc1⟩:=PtR.get ha2 rfl
 obtain ⟨p3,k2,p4,k3,rfl,s2,s3⟩:=qab hr1
 exact zV 9 Tryz.func320 rfl fun h=>X0 8 rfl (zcI h hF (qcB ⟨_,_,rfl,(h.oldS s1)⟩ (h.old ha2)) rfl fun r1 w1 h hF=>X0 3 rfl (rb h hF rfl))
def qa6 (c:qn):Nat→Int→Option (Flow Bool Int)
 | 0,_=>none
 | n+1,i1 =>
  bif decide (i1<(c.Aj.length:Int)) then
   (idx c.Aj i1).bind fun y1 =>
   (qeI n c y1).bind fun r1 =>
   bif (!r1) then some (.ret false) else
   (subS c.Aj 0 i1).bind fun x1 =>
   (qQ n x1 y1).bind fun r2 =>
   bif r2 then some (.ret false) else
   qa6 c n (W64 (i1+1))
  else
   some (.nxt i1)
def qdZ (n:Nat) (c:qn):Option Bool :=
 (qa6 c n 0).bind fun o=>match o with
 | .ret r=>some r
 | .nxt _ =>
  some (decide ((c.Aj.length:Int)≤8))
theorem qiy {c:qn} (ha1:GoT.R w (old w) c cs1) {r:Bool} (hF:qdZ n c=some r):RetV Tryz.prog 301 [GoT.v qn cs1] w r:=by
 obtain ⟨p1,k1,p2,k2,p3,k3,rfl,s1,s2,s3⟩:=qN ha1
 refine zV 30 Tryz.func301 rfl fun h=>zSR (qt h rfl rfl fun w1 bb1 h=>X1 10 0 h rfl ?_)
 obtain ⟨o1,hF,hK1⟩:=qg hF
 refine qm (rL (fun m e w'=>∃ (i1:Int),qa6 c m i1=some o1∧e=[(1,.pointer (some ⟨bb1,0,none⟩)),(6,.slice p2 c.Aj.length k2),(7,.int .i64 (c.Aj.length:Int)),(8,.int .i64 i1)]∧SH w w' [Ch.box bb1 (qcd c p1 p2 p3 k1 k2 k3) 263]) n ⟨_,hF,rfl,h⟩ rfl ?_)
 rintro m1 e1 w2 ⟨i1,hF,rfl,h⟩
 rcases m1 with _|m1
 ·cases hF
 refine X0 5 rfl (qf rfl hF ?_ ?_)<;>intro hF
 ·refine X0 6 rfl ?_
  obtain ⟨y1,hy1,hF,he1,b1,_,q1,cs2,hp1,hq1,hr1,hc2⟩:=s2.ix hF
  obtain ⟨p4,k4,p5,k5,rfl,s4,s5⟩:=qab hr1
  refine zxe hp1 hq1 he1 rfl (zc 0 (hc2.below h.below) rfl (qv qc h rfl rfl rfl fun w3 bb2 h=>zp1 rfl (zs 0 h rfl fun w4 h=>X2 5 1 0 h rfl (zcB h hF (qjj (h.old ha1) (qeE y1 (h.oldS s4) (h.oldS s5))) rfl fun r1 w5 h hF=>zp2 rfl (qd (t:=17) hF rfl ?_ ?_)))))<;>intro hF
  ·refine X0 8 rfl (qbH rfl rfl (X0 4 rfl ?_))
   obtain rfl:=qa hF;replace hF:=hK1
   exact rb h hF rfl
  refine X1 7 1 h rfl ?_
  obtain ⟨x1,hx1,hF⟩:=qg hF
  obtain ⟨p6,k6,hp2,hk1,hl1,g1⟩:=qqA (h.oldS s2) hx1
  refine r_v (qnw qc rfl rfl rfl (qpN g1 rfl) hp2 hk1 hl1 rfl rfl rfl rfl) rfl ?_
  have s6:=qqv s2 hx1 hp2 hk1
  refine X0 3 rfl (zcB h hF (qci ⟨_,_,rfl,(h.oldS s6)⟩ (qgY (x:=y1) 0 h rfl (qeE y1 (h.oldS s4) (h.oldS s5)))) rfl fun r2 w6 h hF=>X0 2 rfl (qf rfl hF ?_ ?_))<;>intro hF
  ·refine X0 4 rfl ?_
   obtain rfl:=qa hF;replace hF:=hK1
   exact rb h hF rfl
  refine X0 6 rfl ?_
  replace h:=h.pick [1] rfl
  exact rK ⟨_,hF,rfl,h⟩ rfl
 refine qr rfl ?_
 obtain rfl:=qa hF;replace hF:=hK1
 exact X1 8 0 h rfl (rb h hF rfl)
def qgi (_:Nat) (a:qL) (v0:Int):Option Bool :=
 some (a.Av==v0)
theorem qjk {a:qL} {v0:Int} (ha1:GoT.R w (old w) a cs1) {p3:Option Addr} (ha2:GoT.R w (old w) (some v0) [.pointer p3]) {r:Bool} (hF:qgi n a v0=some r):RetV Tryz.prog 338 [GoT.v qL cs1,.pointer p3] w r:=by
 obtain ⟨p1,k1,p2,k2,rfl,s1,s2⟩:=qab ha1
 obtain ⟨b1,o_1,cs2,rfl,-,hr1,hc1⟩:=PtR.get ha2 rfl
 obtain rfl:=hr1
 exact zV 8 Tryz.func338 rfl fun h=>zSR (qt h rfl rfl fun w1 bb1 h=>X1 6 0 h rfl (zc 0 (hc1.below h.below) rfl (X0 3 rfl (rb h hF rfl))))
def qD (s:(List qL)) (f_0:Int):Nat→Int→Option (Flow Int Int)
 | 0,_=>none
 | n+1,i1 =>
  bif decide (i1<(s.length:Int)) then
   (idx s i1).bind fun y1 =>
   (qgi n y1 f_0).bind fun r1 =>
   bif r1 then some (.ret i1) else
   qD s f_0 n (W64 (i1+1))
  else
   some (.nxt i1)
def qaF (n:Nat) (s:(List qL)) (f_0:Int):Option Int :=
 (qD s f_0 n 0).bind fun o=>match o with
 | .ret r=>some r
 | .nxt _ =>
  some (-1)
theorem qda {s:(List qL)} {f_0:Int} (ha1:GoT.R w (old w) s cs1) {p2:Option Addr} (ha2:GoT.R w (old w) (some f_0) [.pointer p2]) {r:Int} (hF:qaF n s f_0=some r):RetV Tryz.prog 192 [GoT.v (List qL) cs1,.func (.func 338) #[] #[.pointer p2]] w r:=by
 obtain ⟨p1,k1,rfl,s1⟩:=ha1
 obtain ⟨b1,o_1,cs2,rfl,-,hr1,hc1⟩:=PtR.get ha2 rfl
 obtain rfl:=hr1
 refine zV 19 Tryz.func192 rfl fun h=>X0 11 rfl ?_
 obtain ⟨o1,hF,hK1⟩:=qg hF
 refine qm (rL (fun m e w'=>∃ (i1:Int),qD s f_0 m i1=some o1∧e=[(0,.slice p1 s.length k1),(1,.func (.func 338) #[] #[.pointer (some ⟨b1,o_1,none⟩)]),(7,.int .i64 (s.length:Int)),(8,.int .i64 i1)]∧SH w w' []) n ⟨_,hF,rfl,h⟩ rfl ?_)
 rintro m1 e1 w1 ⟨i1,hF,rfl,h⟩
 rcases m1 with _|m1
 ·cases hF
 refine X0 5 rfl (qf rfl hF ?_ ?_)<;>intro hF
 ·refine X0 13 rfl ?_
  obtain ⟨y1,hy1,hF,he1,b2,_,q1,cs3,hp1,hq1,hr2,hc3⟩:=s1.ix hF
  obtain ⟨p3,k2,p4,k3,rfl,s2,s3⟩:=qab hr2
  refine zxe hp1 hq1 he1 rfl (zc 0 (hc3.below h.below) rfl (zcB h hF (qjk (qeE y1 (h.oldS s2) (h.oldS s3)) (h.old ha2)) rfl fun r1 w2 h hF=>qcz (qf rfl hF ?_ ?_)))<;>intro hF
  ·refine X0 5 rfl ?_
   obtain rfl:=qa hF;replace hF:=hK1
   exact ri h hF rfl
  exact X0 6 rfl (rK ⟨_,hF,rfl,h⟩ rfl)
 refine qr rfl ?_
 obtain rfl:=qa hF;replace hF:=hK1
 exact X0 4 rfl (ri h hF rfl)
def qav (n:Nat) (s:(List qL)) (f_0:Int):Option Bool :=
 (qaF n s f_0).bind fun r1 =>
 some (decide (r1 ≥ 0))
theorem qcO {s:(List qL)} {f_0:Int} (ha1:GoT.R w (old w) s cs1) {p2:Option Addr} (ha2:GoT.R w (old w) (some f_0) [.pointer p2]) {r:Bool} (hF:qav n s f_0=some r):RetV Tryz.prog 320 [GoT.v (List qL) cs1,.func (.func 338) #[] #[.pointer p2]] w r:=by
 obtain ⟨p1,k1,rfl,s1⟩:=ha1
 obtain ⟨b1,o_1,cs2,rfl,-,hr1,hc1⟩:=PtR.get ha2 rfl
 obtain rfl:=hr1
 exact zV 9 Tryz.func320 rfl fun h=>X0 8 rfl (zcI h hF (qda ⟨_,_,rfl,(h.oldS s1)⟩ (h.old ha2)) rfl fun r1 w1 h hF=>X0 3 rfl (rb h hF rfl))
def qbG (n:Nat) (c:qn) (kind:Int):Option Bool :=
 (qav n c.Aj kind).bind fun r1 =>
 some r1
theorem qck {c:qn} {kind:Int} (ha1:GoT.R w (old w) c cs1) {r:Bool} (hF:qbG n c kind=some r):RetV Tryz.prog 322 [GoT.v qn cs1,.int .i64 kind] w r:=by
 obtain ⟨p1,k1,p2,k2,p3,k3,rfl,s1,s2,s3⟩:=qN ha1
 exact zV 9 Tryz.func322 rfl fun h=>zSR (qt h rfl rfl fun w1 bb1 h=>qt h rfl rfl fun w2 bb2 h=>X1 7 1 h rfl (zcB h hF (qcO ⟨_,_,rfl,(h.oldS s2)⟩ (qgY (x:=kind) 0 h rfl rfl)) rfl fun r1 w3 h hF=>X0 2 rfl (rb h hF rfl)))
def qao (a_0:qn):Nat→Int→Int→Option (Int × Int)
 | 0,_,_=>none
 | n+1,i1,i2 =>
  bif decide (i2<(a_0.Ap.length:Int)) then
   (idx a_0.Ap i2).bind fun y1 =>
   bif y1.Bf then qao a_0 n (W64 (i1+1)) (W64 (i2+1)) else
   qao a_0 n i1 (W64 (i2+1))
  else
   some (i1,i2)
def qdl (n:Nat) (a_0:qn):Option Bool :=
 (qao a_0 n 0 0).bind fun o=>match o with
 | (i1,_) =>
  bif (a_0.Av==1) then
   bif (i1==0) then
    (qcp n a_0).bind fun r1 =>
    (shlS 1 r1).bind fun y2 =>
    bif ((a_0.Bg.length:Int)==y2) then
     (qbm n a_0.Bg 0 1).bind fun r2 =>
     some r2
    else
     some false
   else
    some false
  else
   bif (a_0.Av==2) then
    bif (i1==1) then
     bif ((a_0.Bg.length:Int)==0) then
      (qbG n a_0 1).bind fun r3 =>
      bif (!r3) then
       (qbG n a_0 2).bind fun r4 =>
       (qbG n a_0 3).bind fun r5 =>
       some (!(r4==r5))
      else
       some false
     else
      some false
    else
     some false
   else
    bif (a_0.Av==3) then
     bif (i1==1) then
      bif ((a_0.Bg.length:Int)==0) then
       (qbG n a_0 1).bind fun r6 =>
       bif r6 then
        (qbG n a_0 2).bind fun r7 =>
        bif r7 then
         (qbG n a_0 3).bind fun r8 =>
         some (!r8)
        else
         some false
       else
        some false
      else
       some false
     else
      some false
    else
     some false
theorem qib {a_0:qn} (ha1:GoT.R w (old w) a_0 cs1) {r:Bool} (hF:qdl n a_0=some r):RetV Tryz.prog 302 [GoT.v qn cs1] w r:=by
 obtain ⟨p1,k1,p2,k2,p3,k3,rfl,s1,s2,s3⟩:=qN ha1
 refine zV 83 Tryz.func302 rfl fun h=>zSR (qt h rfl rfl fun w1 bb1 h=>X1 14 0 h rfl ?_)
 obtain ⟨o1,hF,hK1⟩:=qg hF
 refine qm (rL (fun m e w'=>∃ (i1:Int) (i2:Int),qao a_0 m i1 i2=some o1∧e=[(1,.pointer (some ⟨bb1,0,none⟩)),(3,.int .i64 i1),(7,.slice p1 a_0.Ap.length k1),(8,.int .i64 (a_0.Ap.length:Int)),(9,.int .i64 i2)]∧SH w w' [Ch.box bb1 (qcd a_0 p1 p2 p3 k1 k2 k3) 263]) n ⟨_,_,hF,rfl,h⟩ rfl ?_)
 rintro m1 e1 w2 ⟨i1,i2,hF,rfl,h⟩
 rcases m1 with _|m1
 ·cases hF
 refine X0 5 rfl (qf rfl hF ?_ ?_)<;>intro hF
 ·refine zKSBSR ?_
  obtain ⟨y1,hy1,hF,he1,b1,_,q1,cs2,hp1,hq1,hr1,hc2⟩:=s1.ix hF
  obtain rfl:=qaG hr1
  refine zxe hp1 hq1 he1 rfl (zc 0 (hc2.below h.below) rfl (qv qc h rfl rfl rfl fun w3 bb2 h=>zs 0 h rfl fun w4 h=>X1 6 0 h rfl (qf rfl hF ?_ ?_)))<;>intro hF
  ·refine X0 10 rfl ?_
   replace h:=h.pick [1] rfl
   exact rK ⟨_,_,hF,rfl,h⟩ rfl
  refine X0 6 rfl ?_
  replace h:=h.pick [1] rfl
  exact rK ⟨_,_,hF,rfl,h⟩ rfl
 refine qr rfl ?_
 obtain rfl:=qa hF;replace hF:=hK1
 refine X1 12 0 h rfl (qf rfl hF ?_ ?_)<;>intro hF
 ·refine qd1 (rD (zd3 rfl (qa2 (t:=24) hF rfl ?_ ?_)))<;>intro hF
  ·refine Y1 4 0 h rfl ?_
   refine Y1 4 0 h rfl ?_
   refine Y0 1 rfl ?_
   obtain ⟨r1,hr2,hF⟩:=qg hF
   refine qbn r1 (vsI _) (cB 200 rfl) (fun _ hb=>qez ((h.ext hb).old ha1) hr2) rfl rfl rfl rfl (Y0 1 rfl ?_)
   obtain ⟨y2,hx1,hF⟩:=qg hF
   obtain ⟨g1,hx1⟩:=qmp hx1
   refine d_v (fun _ hb=>qrv g1 rfl rfl) rfl ?_
   rw [hx1]
   refine Y0 4 rfl (qa2 (t:=33) hF rfl ?_ ?_)<;>intro hF
   ·refine Y1 4 0 h rfl ?_
    refine Y0 1 rfl ?_
    obtain ⟨r2,hr3,hF⟩:=qg hF
    exact qbn r2 (vsB _) (cB 98 rfl) (fun _ hb=>qbV ⟨_,_,rfl,((h.ext hb).oldS s3)⟩ hr3) rfl rfl rfl rfl (zd2 rfl (dN h fun w5 h=>rb h hF rfl))
   exact Y0 5 rfl (dN h fun w6 h=>rb h hF rfl)
  exact Y0 14 rfl (dN h fun w7 h=>rb h hF rfl)
 refine X0 5 rfl (qf rfl hF ?_ ?_)<;>intro hF
 ·refine qd1 (rD (zd3 rfl (qa2 (t:=42) hF rfl ?_ ?_)))<;>intro hF
  ·refine Y1 4 0 h rfl ?_
   refine Y0 6 rfl (qa2 (t:=48) hF rfl ?_ ?_)<;>intro hF
   ·refine Y1 2 0 h rfl ?_
    refine Y0 1 rfl ?_
    obtain ⟨r3,hr4,hF⟩:=qg hF
    refine qbn r3 (vsB _) (cB 322 rfl) (fun _ hb=>qck ((h.ext hb).old ha1) hr4) rfl rfl rfl rfl (Y0 4 rfl (qa2 (t:=53) hF rfl ?_ ?_))<;>intro hF
    ·refine Y1 2 0 h rfl ?_
     refine Y0 1 rfl ?_
     obtain ⟨r4,hr5,hF⟩:=qg hF
     refine qbn r4 (vsB _) (cB 322 rfl) (fun _ hb=>qck ((h.ext hb).old ha1) hr5) rfl rfl rfl rfl (Y1 2 0 h rfl ?_)
     refine Y0 1 rfl ?_
     obtain ⟨r5,hr6,hF⟩:=qg hF
     exact qbn r5 (vsB _) (cB 322 rfl) (fun _ hb=>qck ((h.ext hb).old ha1) hr6) rfl rfl rfl rfl (Y0 4 rfl (dN h fun w8 h=>rb h hF rfl))
    exact Y0 7 rfl (dN h fun w9 h=>rb h hF rfl)
   exact Y0 12 rfl (dN h fun w10 h=>rb h hF rfl)
  exact Y0 18 rfl (dN h fun w11 h=>rb h hF rfl)
 refine X0 5 rfl (qf rfl hF ?_ ?_)<;>intro hF
 ·refine X0 5 rfl (qd (t:=64) hF rfl ?_ ?_)<;>intro hF
  ·refine X1 10 0 h rfl (qd (t:=70) hF rfl ?_ ?_)<;>intro hF
   ·refine X1 3 0 h rfl (zcB h hF (qck (h.old ha1)) rfl fun r6 w12 h hF=>zp2 rfl (qd (t:=74) hF rfl ?_ ?_))<;>intro hF
    ·refine X1 3 0 h rfl (zcB h hF (qck (h.old ha1)) rfl fun r7 w13 h hF=>zp2 rfl (qd (t:=78) hF rfl ?_ ?_))<;>intro hF
     ·exact X1 3 0 h rfl (zcB h hF (qck (h.old ha1)) rfl fun r8 w14 h hF=>X0 5 rfl (rb h hF rfl))
     exact X0 6 rfl (rb h hF rfl)
    exact X0 10 rfl (rb h hF rfl)
   exact X0 14 rfl (rb h hF rfl)
  exact X0 20 rfl (rb h hF rfl)
 exact X0 6 rfl (rb h hF rfl)
def qhq (n:Nat) (c:qn):Option Bool :=
 (qge n c.Ar).bind fun r1 =>
 bif r1 then
  (qgt n c.Ap).bind fun r2 =>
  bif r2 then
   (qdZ n c).bind fun r3 =>
   bif r3 then
    (qaj n c.Br 0 100000).bind fun r4 =>
    bif r4 then
     (qaj n c.Bj 0 100000).bind fun r5 =>
     bif r5 then
      (qdl n c).bind fun r6 =>
      some r6
     else
      some false
    else
     some false
   else
    some false
  else
   some false
 else
  some false
theorem qla {c:qn} (ha1:GoT.R w (old w) c cs1) {r:Bool} (hF:qhq n c=some r):RetV Tryz.prog 261 [GoT.v qn cs1] w r:=by
 obtain ⟨p1,k1,p2,k2,p3,k3,rfl,s1,s2,s3⟩:=qN ha1
 refine zV 29 Tryz.func261 rfl fun h=>zSR (qt h rfl rfl fun w1 bb1 h=>X1 6 0 h rfl (zcB h hF qiE rfl fun r1 w2 h hF=>zp1 rfl (qd (t:=6) hF rfl ?_ ?_)))<;>intro hF
 ·refine X1 5 0 h rfl (zcB h hF (qkE ⟨_,_,rfl,(h.oldS s1)⟩) rfl fun r2 w3 h hF=>zp2 rfl (qd (t:=11) hF rfl ?_ ?_))<;>intro hF
  ·refine X1 3 0 h rfl (zcB h hF (qiy (h.old ha1)) rfl fun r3 w4 h hF=>zp2 rfl (qd (t:=15) hF rfl ?_ ?_))<;>intro hF
   ·refine X1 5 0 h rfl (zcB h hF qZ rfl fun r4 w5 h hF=>zp2 rfl (qd (t:=20) hF rfl ?_ ?_))<;>intro hF
    ·refine X1 5 0 h rfl (zcB h hF qZ rfl fun r5 w6 h hF=>zp2 rfl (qd (t:=25) hF rfl ?_ ?_))<;>intro hF
     ·exact X1 3 0 h rfl (zcB h hF (qib (h.old ha1)) rfl fun r6 w7 h hF=>X0 3 rfl (rb h hF rfl))
     exact X0 5 rfl (rb h hF rfl)
    exact X0 10 rfl (rb h hF rfl)
   exact X0 15 rfl (rb h hF rfl)
  exact X0 19 rfl (rb h hF rfl)
 exact X0 24 rfl (rb h hF rfl)
def qbd (l:ql):Nat→(List ByteArray)→Int→Option (Flow Bool ((List ByteArray) × Int))
 | 0,_,_=>none
 | n+1,x1,i1 =>
  bif decide (i1<(l.Ak.length:Int)) then
   (idx l.Ak i1).bind fun y1 =>
   (qhq n y1).bind fun r1 =>
   bif (!r1) then some (.ret false) else
   (appS x1 ([y1.Ar]:List ByteArray)).bind fun x2 =>
   qbd l n x2 (W64 (i1+1))
  else
   some (.nxt (x1,i1))
def qfs (n:Nat) (l:ql):Option Bool :=
 (qbd l n ([]:List ByteArray) 0).bind fun o=>match o with
 | .ret r=>some r
 | .nxt (x1,_) =>
  bif decide ((l.Ak.length:Int)≤8) then
   (qce n x1).bind fun r2 =>
   some r2
  else
   some false
theorem qjV {l:ql} (ha1:GoT.R w (old w) l cs1) {r:Bool} (hF:qfs n l=some r):RetV Tryz.prog 214 [GoT.v ql cs1] w r:=by
 obtain ⟨p1,k1,rfl,s1⟩:=qaQ ha1
 refine zV 30 Tryz.func214 rfl fun h=>zSR (qt h rfl rfl fun w1 bb1 h=>X1 14 0 h rfl ?_)
 replace h:=h.nil (α:=ByteArray)
 obtain ⟨o1,hF,hK1⟩:=qg hF
 refine qm (rL (fun m e w'=>∃ (S1:Nat→Prop) (p2:Option Addr) (ln1:Nat) (k2:Nat) (x1:(List ByteArray)) (i1:Int),qbd l m x1 i1=some o1∧e=[(1,.pointer (some ⟨bb1,0,none⟩)),(3,.slice p2 ln1 k2),(7,.slice p1 l.Ak.length k1),(8,.int .i64 (l.Ak.length:Int)),(9,.int .i64 i1)]∧SH w w' [Ch.own S1 (x1:List ByteArray) [.slice p2 ln1 k2],Ch.box bb1 [.slice p1 l.Ak.length k1] 41]) n ⟨_,_,_,_,_,_,hF,rfl,h⟩ rfl ?_)
 rintro m1 e1 w2 ⟨S1,p2,ln1,k2,x1,i1,hF,rfl,h⟩
 obtain rfl:=(h.sl 0 rfl).2
 rcases m1 with _|m1
 ·cases hF
 refine X0 5 rfl (qf rfl hF ?_ ?_)<;>intro hF
 ·refine zKSBSR ?_
  obtain ⟨y1,hy1,hF,he1,b1,_,q1,cs2,hp1,hq1,hr1,hc2⟩:=s1.ix hF
  obtain ⟨p3,k3,p4,k4,p5,k5,rfl,s2,s3,s4⟩:=qN hr1
  refine zxe hp1 hq1 he1 rfl (zc 0 (hc2.below h.below) rfl (qv qc h rfl rfl rfl fun w3 bb2 h=>zs 0 h rfl fun w4 h=>X1 5 0 h rfl (zcB h hF (qla (qgP y1 (h.oldS s2) (h.oldS s3) (h.oldS s4))) rfl fun r1 w5 h hF=>X0 2 rfl (qf rfl hF ?_ ?_))))<;>intro hF
  ·refine X0 4 rfl ?_
   obtain rfl:=qa hF;replace hF:=hK1
   exact rb h hF rfl
  refine X1 5 0 h rfl (qal qc [.tmp 18] _ ([y1.Ar]:List ByteArray) h rfl rfl rfl rfl rfl rfl rfl rfl rfl ⟨rfl,trivial⟩ rfl fun w6 p6 S2 h=>?_)
  obtain ⟨x2,hx1,hF⟩:=qg hF
  obtain ⟨g1,hx1⟩:=qaP hx1
  refine qdT qc 2 h rfl (h.sl 0 rfl).1 (h.sl 0 rfl).2 rfl rfl rfl rfl rfl rfl rfl rfl rfl g1 hx1 rfl fun w7 p7 k6 S3 h=>X0 7 rfl ?_
  replace h:=h.pick [2,3] rfl
  exact rK ⟨_,_,_,_,_,_,hF,rfl,h⟩ rfl
 refine qr rfl ?_
 obtain rfl:=qa hF;replace hF:=hK1
 refine X1 7 1 h rfl (qd (t:=26) hF rfl ?_ ?_)<;>intro hF
 ·exact X0 3 rfl (zcB h hF (qdf (h.own 0 rfl)) rfl fun r2 w8 h hF=>X0 3 rfl (rb h hF rfl))
 exact X0 5 rfl (rb h hF rfl)
def qat (d:qb):Nat→(List ByteArray)→Int→Option ((List ByteArray) × Int)
 | 0,_,_=>none
 | n+1,x3,i2 =>
  bif decide (i2<(d.Af.length:Int)) then
   (idx d.Af i2).bind fun y2 =>
   (appS x3 ([y2.Ar]:List ByteArray)).bind fun x4 =>
   qat d n x4 (W64 (i2+1))
  else
   some (x3,i2)
def qaz (d:qb):Nat→(List ByteArray)→Int→Option ((List ByteArray) × Int)
 | 0,_,_=>none
 | n+1,x1,i1 =>
  bif decide (i1<(d.Aa.length:Int)) then
   (idx d.Aa i1).bind fun y1 =>
   (appS x1 ([y1.Ar]:List ByteArray)).bind fun x2 =>
   qaz d n x2 (W64 (i1+1))
  else
   some (x1,i1)
def qcL (n:Nat) (d:qb):Option Bool :=
 (qaz d n ([]:List ByteArray) 0).bind fun o=>match o with
 | (x1,_) =>
  (qat d n ([]:List ByteArray) 0).bind fun o=>match o with
  | (x3,_) =>
   bif decide ((x1.length:Int)≤14) then
    bif decide ((d.Ah.length:Int)≤30) then
     bif decide ((x3.length:Int)≤8) then
      (qce n x1).bind fun r1 =>
      bif r1 then
       (qce n d.Ah).bind fun r2 =>
       bif r2 then
        (qce n x3).bind fun r3 =>
        some r3
       else
        some false
      else
       some false
     else
      some false
    else
     some false
   else
    some false
theorem qhE {d:qb} (ha1:GoT.R w (old w) d cs1) {r:Bool} (hF:qcL n d=some r):RetV Tryz.prog 215 [GoT.v qb cs1] w r:=by
 obtain ⟨p1,k1,p2,k2,p3,k3,rfl,s1,s2,s3⟩:=qW ha1
 refine zV 62 Tryz.func215 rfl fun h=>zSR (qt h rfl rfl fun w1 bb1 h=>X1 15 0 h rfl ?_)
 replace h:=h.nil (α:=ByteArray)
 obtain ⟨o1,hF,hK1⟩:=qg hF
 refine qm (rL (fun m e w'=>∃ (S1:Nat→Prop) (p4:Option Addr) (ln1:Nat) (k4:Nat) (x1:(List ByteArray)) (i1:Int),qaz d m x1 i1=some o1∧e=[(1,.pointer (some ⟨bb1,0,none⟩)),(3,.slice p4 ln1 k4),(4,.slice none 0 0),(10,.slice p1 d.Aa.length k1),(11,.int .i64 (d.Aa.length:Int)),(12,.int .i64 i1)]∧SH w w' [Ch.own S1 (x1:List ByteArray) [.slice p4 ln1 k4],Ch.box bb1 (qay d p1 p2 p3 k1 k2 k3) 45]) n ⟨_,_,_,_,_,_,hF,rfl,h⟩ rfl ?_)
 rintro m1 e1 w2 ⟨S1,p4,ln1,k4,x1,i1,hF,rfl,h⟩
 obtain rfl:=(h.sl 0 rfl).2
 rcases m1 with _|m1
 ·cases hF
 refine X0 5 rfl (qf rfl hF ?_ ?_)<;>intro hF
 ·refine zKSBSR ?_
  obtain ⟨y1,hy1,hF,he1,b1,_,q1,cs2,hp1,hq1,hr1,hc2⟩:=s1.ix hF
  obtain ⟨p5,k5,rfl,s4⟩:=qI hr1
  refine zxe hp1 hq1 he1 rfl (zc 0 (hc2.below h.below) rfl (qv qc h rfl rfl rfl fun w3 bb2 h=>zs 0 h rfl fun w4 h=>X1 5 0 h rfl (qal qc [.tmp 18] _ ([y1.Ar]:List ByteArray) h rfl rfl rfl rfl rfl rfl rfl rfl rfl ⟨rfl,trivial⟩ rfl fun w5 p6 S2 h=>?_)))
  obtain ⟨x2,hx1,hF⟩:=qg hF
  obtain ⟨g1,hx1⟩:=qaP hx1
  refine qdT qc 2 h rfl (h.sl 0 rfl).1 (h.sl 0 rfl).2 rfl rfl rfl rfl rfl rfl rfl rfl rfl g1 hx1 rfl fun w6 p7 k6 S3 h=>X0 7 rfl ?_
  replace h:=h.pick [2,3] rfl
  exact rK ⟨_,_,_,_,_,_,hF,rfl,h⟩ rfl
 refine qr rfl ?_
 obtain rfl:=qa hF;replace hF:=hK1
 refine X1 8 1 h rfl ?_
 replace h:=h.nil (α:=ByteArray)
 obtain ⟨o2,hF,hK2⟩:=qg hF
 refine qm (rL (fun m e w'=>∃ (S4:Nat→Prop) (p8:Option Addr) (ln2:Nat) (k7:Nat) (x3:(List ByteArray)) (i2:Int),qat d m x3 i2=some o2∧e=[(1,.pointer (some ⟨bb1,0,none⟩)),(3,.slice p4 x1.length k4),(4,.slice p8 ln2 k7),(23,.slice p3 d.Af.length k3),(24,.int .i64 (d.Af.length:Int)),(25,.int .i64 i2)]∧SH w w' [Ch.own S4 (x3:List ByteArray) [.slice p8 ln2 k7],Ch.own S1 (x1:List ByteArray) [.slice p4 x1.length k4],Ch.box bb1 (qay d p1 p2 p3 k1 k2 k3) 45]) n ⟨_,_,_,_,_,_,hF,rfl,h⟩ rfl ?_)
 rintro m2 e2 w7 ⟨S4,p8,ln2,k7,x3,i2,hF,rfl,h⟩
 obtain rfl:=(h.sl 0 rfl).2
 rcases m2 with _|m2
 ·cases hF
 refine X0 5 rfl (qf rfl hF ?_ ?_)<;>intro hF
 ·refine zKSBSR ?_
  obtain ⟨y2,hy2,hF,he2,b2,_,q2,cs3,hp2,hq2,hr2,hc4⟩:=s3.ix hF
  obtain rfl:=qau hr2
  refine zxe hp2 hq2 he2 rfl (zc 0 (hc4.below h.below) rfl (qv qc h rfl rfl rfl fun w8 bb3 h=>zs 0 h rfl fun w9 h=>X1 5 0 h rfl (qal qc [.tmp 31] _ ([y2.Ar]:List ByteArray) h rfl rfl rfl rfl rfl rfl rfl rfl rfl ⟨rfl,trivial⟩ rfl fun w10 p9 S5 h=>?_)))
  obtain ⟨x4,hx2,hF⟩:=qg hF
  obtain ⟨g2,hx2⟩:=qaP hx2
  refine qdT qc 2 h rfl (h.sl 0 rfl).1 (h.sl 0 rfl).2 rfl rfl rfl rfl rfl rfl rfl rfl rfl g2 hx2 rfl fun w11 p10 k8 S6 h=>X0 7 rfl ?_
  replace h:=h.pick [2,3,4] rfl
  exact rK ⟨_,_,_,_,_,_,hF,rfl,h⟩ rfl
 refine qr rfl ?_
 obtain rfl:=qa hF;replace hF:=hK2
 refine X0 6 rfl (qd (t:=38) hF rfl ?_ ?_)<;>intro hF
 ·refine X1 10 2 h rfl (qd (t:=44) hF rfl ?_ ?_)<;>intro hF
  ·refine X0 8 rfl (qd (t:=49) hF rfl ?_ ?_)<;>intro hF
   ·refine X0 3 rfl (zcB h hF (qdf (h.own 1 rfl)) rfl fun r1 w12 h hF=>zp2 rfl (qd (t:=53) hF rfl ?_ ?_))<;>intro hF
    ·refine X1 5 2 h rfl (zcB h hF (qdf ⟨_,_,rfl,(h.oldS s2)⟩) rfl fun r2 w13 h hF=>zp2 rfl (qd (t:=58) hF rfl ?_ ?_))<;>intro hF
     ·exact X0 3 rfl (zcB h hF (qdf (h.own 0 rfl)) rfl fun r3 w14 h hF=>X0 3 rfl (rb h hF rfl))
     exact X0 5 rfl (rb h hF rfl)
    exact X0 10 rfl (rb h hF rfl)
   exact X0 14 rfl (rb h hF rfl)
  exact X0 19 rfl (rb h hF rfl)
 exact X0 25 rfl (rb h hF rfl)
def qdR (_:Nat) (list:(List qn)):Option Int :=
 some (list.length:Int)
theorem qhy {list:(List qn)} (ha1:GoT.R w (old w) list cs1) {r:Int} (hF:qdR n list=some r):RetV Tryz.prog 263 [GoT.v (List qn) cs1] w r:=by
 obtain ⟨p1,k1,rfl,s1⟩:=ha1
 exact zV 5 Tryz.func263 rfl fun h=>X0 10 rfl (ri h hF rfl)
def qbJ (n:Nat) (net:Int) (v0:qb):Option Bool :=
 (qbj n v0 net).bind fun r1 =>
 some (!r1)
theorem qgI {net:Int} {v0:qb} {p1:Option Addr} (ha1:GoT.R w (old w) (some v0) [.pointer p1]) {r:Bool} (hF:qbJ n net v0=some r):RetV Tryz.prog 264 [.int .i64 net,.pointer p1] w r:=by
 obtain ⟨b1,o_1,cs1,rfl,-,hr1,hc1⟩:=PtR.get ha1 rfl
 obtain ⟨p2,k1,p3,k2,p4,k3,rfl,s1,s2,s3⟩:=qW hr1
 exact zV 8 Tryz.func264 rfl fun h=>X0 6 rfl (zc 0 (hc1.below h.below) rfl (zp1 rfl (zcB h hF (qcR (qaJ v0 (h.oldS s1) (h.oldS s2) (h.oldS s3))) rfl fun r1 w1 h hF=>X0 3 rfl (rb h hF rfl))))
def qw (s:(List Int)) (f_0:qb):Nat→Int→Option (Flow Int Int)
 | 0,_=>none
 | n+1,i1 =>
  bif decide (i1<(s.length:Int)) then
   (idx s i1).bind fun y1 =>
   (qbJ n y1 f_0).bind fun r1 =>
   bif r1 then some (.ret i1) else
   qw s f_0 n (W64 (i1+1))
  else
   some (.nxt i1)
def qah (n:Nat) (s:(List Int)) (f_0:qb):Option Int :=
 (qw s f_0 n 0).bind fun o=>match o with
 | .ret r=>some r
 | .nxt _ =>
  some (-1)
theorem qcs {s:(List Int)} {f_0:qb} (ha1:GoT.R w (old w) s cs1) {p2:Option Addr} (ha2:GoT.R w (old w) (some f_0) [.pointer p2]) {r:Int} (hF:qah n s f_0=some r):RetV Tryz.prog 176 [GoT.v (List Int) cs1,.func (.func 264) #[] #[.pointer p2]] w r:=by
 obtain ⟨p1,k1,rfl,s1⟩:=ha1
 obtain ⟨b1,o_1,cs2,rfl,-,hr1,hc1⟩:=PtR.get ha2 rfl
 obtain ⟨p3,k2,p4,k3,p5,k4,rfl,s2,s3,s4⟩:=qW hr1
 refine zV 19 Tryz.func176 rfl fun h=>X0 11 rfl ?_
 obtain ⟨o1,hF,hK1⟩:=qg hF
 refine qm (rL (fun m e w'=>∃ (i1:Int),qw s f_0 m i1=some o1∧e=[(0,.slice p1 s.length k1),(1,.func (.func 264) #[] #[.pointer (some ⟨b1,o_1,none⟩)]),(7,.int .i64 (s.length:Int)),(8,.int .i64 i1)]∧SH w w' []) n ⟨_,hF,rfl,h⟩ rfl ?_)
 rintro m1 e1 w1 ⟨i1,hF,rfl,h⟩
 rcases m1 with _|m1
 ·cases hF
 refine X0 5 rfl (qf rfl hF ?_ ?_)<;>intro hF
 ·refine X0 13 rfl ?_
  obtain ⟨y1,hy1,hF,he1,b2,_,q1,cs3,hp1,hq1,rfl,hc3⟩:=s1.ix hF
  refine zxe hp1 hq1 he1 rfl (zc 0 (hc3.below h.below) rfl (zcB h hF (qgI (h.old ha2)) rfl fun r1 w2 h hF=>qcz (qf rfl hF ?_ ?_)))<;>intro hF
  ·refine X0 5 rfl ?_
   obtain rfl:=qa hF;replace hF:=hK1
   exact ri h hF rfl
  exact X0 6 rfl (rK ⟨_,hF,rfl,h⟩ rfl)
 refine qr rfl ?_
 obtain rfl:=qa hF;replace hF:=hK1
 exact X0 4 rfl (ri h hF rfl)
def qac (n:Nat) (s:(List Int)) (f_0:qb):Option Bool :=
 (qah n s f_0).bind fun r1 =>
 some (decide (r1 ≥ 0))
theorem qb8 {s:(List Int)} {f_0:qb} (ha1:GoT.R w (old w) s cs1) {p2:Option Addr} (ha2:GoT.R w (old w) (some f_0) [.pointer p2]) {r:Bool} (hF:qac n s f_0=some r):RetV Tryz.prog 93 [GoT.v (List Int) cs1,.func (.func 264) #[] #[.pointer p2]] w r:=by
 obtain ⟨p1,k1,rfl,s1⟩:=ha1
 obtain ⟨b1,o_1,cs2,rfl,-,hr1,hc1⟩:=PtR.get ha2 rfl
 obtain ⟨p3,k2,p4,k3,p5,k4,rfl,s2,s3,s4⟩:=qW hr1
 exact zV 9 Tryz.func93 rfl fun h=>X0 8 rfl (zcI h hF (qcs ⟨_,_,rfl,(h.oldS s1)⟩ (h.old ha2)) rfl fun r1 w1 h hF=>X0 3 rfl (rb h hF rfl))
def qb9 (n:Nat) (d:qb) (l:ql) (x:qe):Option Bool :=
 (qdR n l.Ak).bind fun r1 =>
 (qaj n x.Bl 0 (W64 (r1-1))).bind fun r2 =>
 bif r2 then
  (idx l.Ak x.Bl).bind fun y1 =>
  bif ((x.Ah.length:Int)==(y1.Ap.length:Int)) then
   (qac n x.Ah d).bind fun r3 =>
   some (!r3)
  else
   some false
 else
  some false
theorem qhc {d:qb} {l:ql} {x:qe} (ha1:GoT.R w (old w) d cs1) (ha2:GoT.R w (old w) l cs2) (ha3:GoT.R w (old w) x cs3) {r:Bool} (hF:qb9 n d l x=some r):RetV Tryz.prog 216 [GoT.v qb cs1,GoT.v ql cs2,GoT.v qe cs3] w r:=by
 obtain ⟨p1,k1,p2,k2,p3,k3,rfl,s1,s2,s3⟩:=qW ha1
 obtain ⟨p4,k4,rfl,s4⟩:=qaQ ha2
 obtain ⟨p5,k5,rfl,s5⟩:=qI ha3
 refine zV 35 Tryz.func216 rfl fun h=>zSR (qt h rfl rfl fun w1 bb1 h=>qt h rfl rfl fun w2 bb2 h=>qt h rfl rfl fun w3 bb3 h=>X0 3 rfl (rD (Y1 2 0 h rfl ?_)))
 refine Y1 2 1 h rfl ?_
 obtain ⟨r1,hr1,hF⟩:=qg hF
 refine qbn r1 (vsI _) (cB 263 rfl) (fun _ hb=>qhy ⟨_,_,rfl,((h.ext hb).oldS s4)⟩ hr1) rfl rfl rfl rfl (zd1 rfl ?_)
 obtain ⟨r2,hr2,hF⟩:=qg hF
 refine qbn r2 (vsB _) (cB 114 rfl) (fun _ hb=>qZ  hr2) rfl rfl rfl rfl (zd1 rfl (qa2 (t:=14) hF rfl ?_ ?_))<;>intro hF
 ·refine Y1 4 0 h rfl ?_
  refine Y1 6 1 h rfl ?_
  refine Y1 4 0 h rfl ?_
  refine Y0 1 rfl ?_
  obtain ⟨y1,hy1,hF,he1,b1,_,q1,cs4,hp1,hq1,hr3,hc1⟩:=s4.ix hF
  obtain ⟨p6,k6,p7,k7,p8,k8,rfl,s6,s7,s8⟩:=qN hr3
  refine zdxe hp1 hq1 he1 rfl (Y0 3 rfl (zdc 2 (hc1.below h.below) rfl (Y0 6 rfl (qa2 (t:=28) hF rfl ?_ ?_))))<;>intro hF
  ·refine Y1 4 0 h rfl ?_
   refine Y0 3 rfl ?_
   obtain ⟨r3,hr4,hF⟩:=qg hF
   exact qbn r3 (vsB _) (cB 93 rfl) (fun _ hb=>qb8 ⟨_,_,rfl,((h.ext hb).oldS s5)⟩ (qgY (x:=d) 2 (h.ext hb) rfl ((h.ext hb).old ha1)) hr4) rfl rfl rfl rfl (Y0 4 rfl (dN h fun w4 h=>rb h hF rfl))
  exact Y0 7 rfl (dN h fun w5 h=>rb h hF rfl)
 exact Y0 21 rfl (dN h fun w6 h=>rb h hF rfl)
def qgl (_:Nat) (a_n:Int):Option Bool :=
 some (a_n != 1)
theorem qjq {a_n:Int}  {r:Bool} (hF:qgl n a_n=some r):RetV Tryz.prog 218 [.int .i64 a_n] w r:=by
 exact zV 5 Tryz.func218 rfl fun h=>X0 10 rfl (rb h hF rfl)
def qK (s:(List Int)):Nat→Int→Option (Flow Int Int)
 | 0,_=>none
 | n+1,i1 =>
  bif decide (i1<(s.length:Int)) then
   (idx s i1).bind fun y1 =>
   (qgl n y1).bind fun r1 =>
   bif r1 then some (.ret i1) else
   qK s n (W64 (i1+1))
  else
   some (.nxt i1)
def qaX (n:Nat) (s:(List Int)):Option Int :=
 (qK s n 0).bind fun o=>match o with
 | .ret r=>some r
 | .nxt _ =>
  some (-1)
theorem qd4 {s:(List Int)} (ha1:GoT.R w (old w) s cs1) {r:Int} (hF:qaX n s=some r):RetV Tryz.prog 265 [GoT.v (List Int) cs1,.func (.func 218) #[] #[]] w r:=by
 obtain ⟨p1,k1,rfl,s1⟩:=ha1
 refine zV 19 Tryz.func265 rfl fun h=>X0 11 rfl ?_
 obtain ⟨o1,hF,hK1⟩:=qg hF
 refine qm (rL (fun m e w'=>∃ (i1:Int),qK s m i1=some o1∧e=[(0,.slice p1 s.length k1),(1,.func (.func 218) #[] #[]),(7,.int .i64 (s.length:Int)),(8,.int .i64 i1)]∧SH w w' []) n ⟨_,hF,rfl,h⟩ rfl ?_)
 rintro m1 e1 w1 ⟨i1,hF,rfl,h⟩
 rcases m1 with _|m1
 ·cases hF
 refine X0 5 rfl (qf rfl hF ?_ ?_)<;>intro hF
 ·refine X0 13 rfl ?_
  obtain ⟨y1,hy1,hF,he1,b1,_,q1,cs2,hp1,hq1,rfl,hc2⟩:=s1.ix hF
  refine zxe hp1 hq1 he1 rfl (zc 0 (hc2.below h.below) rfl (zcB h hF qjq rfl fun r1 w2 h hF=>qcz (qf rfl hF ?_ ?_)))<;>intro hF
  ·refine X0 5 rfl ?_
   obtain rfl:=qa hF;replace hF:=hK1
   exact ri h hF rfl
  exact X0 6 rfl (rK ⟨_,hF,rfl,h⟩ rfl)
 refine qr rfl ?_
 obtain rfl:=qa hF;replace hF:=hK1
 exact X0 4 rfl (ri h hF rfl)
def qaO (n:Nat) (s:(List Int)):Option Bool :=
 (qaX n s).bind fun r1 =>
 some (decide (r1 ≥ 0))
theorem qdm {s:(List Int)} (ha1:GoT.R w (old w) s cs1) {r:Bool} (hF:qaO n s=some r):RetV Tryz.prog 217 [GoT.v (List Int) cs1,.func (.func 218) #[] #[]] w r:=by
 obtain ⟨p1,k1,rfl,s1⟩:=ha1
 exact zV 9 Tryz.func217 rfl fun h=>X0 8 rfl (zcI h hF (qd4 ⟨_,_,rfl,(h.oldS s1)⟩) rfl fun r1 w1 h hF=>X0 3 rfl (rb h hF rfl))
def qa9 (a_1:qb):Nat→(List Int)→Int→Option (Flow Bool ((List Int) × Int))
 | 0,_,_=>none
 | n+1,x3,i2 =>
  bif decide (i2<(a_1.Af.length:Int)) then
   (idx a_1.Af i2).bind fun y5 =>
   (
    bif (y5.Bm != 1) then
     bif (y5.Bm != 2) then some true else
     (qbj n a_1 y5.Bo).bind fun r2 =>
     some (!r2)
    else
     (qbj n a_1 y5.Bo).bind fun r3 =>
     some (!r3)).bind fun b7 =>
   bif b7 then some (.ret false) else
   bif (y5.Bm==1) then
    (idx x3 y5.Bo).bind fun y6 =>
    (idx x3 y5.Bo).bind fun _ =>
    qa9 a_1 n (setS x3 y5.Bo (W64 (y6+1))) (W64 (i2+1))
   else
    qa9 a_1 n x3 (W64 (i2+1))
  else
   some (.nxt (x3,i2))
def qbE (a_0:ql) (a_1:qb):Nat→(List Int)→Int→Option (Flow Bool ((List Int) × Int))
 | 0,_,_=>none
 | n+1,x2,i1 =>
  bif decide (i1<(a_1.Aa.length:Int)) then
   (idx a_1.Aa i1).bind fun y1 =>
   (qb9 n a_1 a_0 y1).bind fun r1 =>
   bif (!r1) then some (.ret false) else
   (idx y1.Ah (W64 ((y1.Ah.length:Int)-1))).bind fun y2 =>
   (idx x2 y2).bind fun y3 =>
   (idx x2 y2).bind fun _ =>
   qbE a_0 a_1 n (setS x2 y2 (W64 (y3+1))) (W64 (i1+1))
  else
   some (.nxt (x2,i1))
def qfJ (n:Nat) (a_0:ql) (a_1:qb):Option Bool :=
 (
  (qfs n a_0).bind fun r5 =>
  bif (!r5) then some true else
  (qcL n a_1).bind fun r6 =>
  some (!r6)).bind fun b1 =>
 bif b1 then some false else
 (mkS (a_1.Ah.length:Int) (0:Int)).bind fun x1 =>
 (qbE a_0 a_1 n x1 0).bind fun o=>match o with
 | .ret r=>some r
 | .nxt (x2,_) =>
  (qa9 a_1 n x2 0).bind fun o=>match o with
  | .ret r=>some r
  | .nxt (x3,_) =>
   (qaO n x3).bind fun r4 =>
   some (!r4)
theorem qkc {a_0:ql} {a_1:qb} (ha1:GoT.R w (old w) a_0 cs1) (ha2:GoT.R w (old w) a_1 cs2) {r:Bool} (hF:qfJ n a_0 a_1=some r):RetV Tryz.prog 139 [GoT.v ql cs1,GoT.v qb cs2] w r:=by
 obtain ⟨p1,k1,rfl,s1⟩:=qaQ ha1
 obtain ⟨p2,k2,p3,k3,p4,k4,rfl,s2,s3,s4⟩:=qW ha2
 refine zV 84 Tryz.func139 rfl fun h=>zSR (qt h rfl rfl fun w1 bb1 h=>qt h rfl rfl fun w2 bb2 h=>X0 4 rfl ?_)
 obtain ⟨KF2,hKF2,o4,hF,hK4⟩:=bindE hF
 refine qcy (fun e w'=>∃ (b1:Bool),KF2 b1=some r∧e=[(2,.pointer (some ⟨bb1,0,none⟩)),(3,.pointer (some ⟨bb2,0,none⟩)),(17,.bool b1)]∧SH w w' [Ch.box bb2 (qay a_1 p2 p3 p4 k2 k3 k4) 45,Ch.box bb1 [.slice p1 a_0.Ak.length k1] 41]) ?_ ?_
 ·refine X1 2 1 h rfl (zcB h hF (qjV (h.old ha1)) rfl fun r5 w17 h hF=>zp2 rfl (qd (t:=13) hF rfl ?_ ?_))<;>intro hF
  ·refine X0 5 rfl ?_
   obtain rfl:=qa hF
   exact rG ⟨_,hK4,rfl,h⟩ rfl
  refine X1 3 0 h rfl (zcB h hF (qhE (h.old ha2)) rfl fun r6 w18 h hF=>X0 4 rfl ?_)
  obtain rfl:=qa hF
  exact rG ⟨_,hK4,rfl,h⟩ rfl
 rintro e4 w19 ⟨b1,hF,rfl,h⟩
 subst hKF2
 refine qf rfl hF ?_ ?_<;>intro hF
 ·exact X0 4 rfl (rb h hF rfl)
 refine X1 6 0 h rfl ?_
 obtain ⟨x1,hx1,hF⟩:=qg hF
 obtain ⟨g1,g2,hx1⟩:=qbz hx1
 refine qcw qc Int h rfl rfl rfl rfl rfl rfl rfl rfl rfl g1 g2 hx1 rfl fun w3 S1 p5 h=>X1 10 1 h rfl ?_
 obtain ⟨o1,hF,hK1⟩:=qg hF
 refine qm (rL (fun m e w'=>∃ (x2:(List Int)) (i1:Int),qbE a_0 a_1 m x2 i1=some o1∧e=[(2,.pointer (some ⟨bb1,0,none⟩)),(3,.pointer (some ⟨bb2,0,none⟩)),(5,.slice p5 x1.length x1.length),(23,.slice p2 a_1.Aa.length k2),(24,.int .i64 (a_1.Aa.length:Int)),(25,.int .i64 i1)]∧SH w w' [Ch.own S1 (x2:List Int) [.slice p5 x1.length x1.length],Ch.box bb2 (qay a_1 p2 p3 p4 k2 k3 k4) 45,Ch.box bb1 [.slice p1 a_0.Ak.length k1] 41]) n ⟨_,_,hF,rfl,h⟩ rfl ?_)
 rintro m1 e1 w4 ⟨x2,i1,hF,rfl,h⟩
 rcases m1 with _|m1
 ·cases hF
 refine X0 5 rfl (qf rfl hF ?_ ?_)<;>intro hF
 ·refine zKSBSR ?_
  obtain ⟨y1,hy1,hF,he1,b2,_,q1,cs3,hp1,hq1,hr1,hc3⟩:=s2.ix hF
  obtain ⟨p6,k5,rfl,s5⟩:=qI hr1
  refine zxe hp1 hq1 he1 rfl (zc 0 (hc3.below h.below) rfl (qv qc h rfl rfl rfl fun w5 bb3 h=>zs 0 h rfl fun w6 h=>X3 7 2 3 0 h rfl (zcB h hF (qhc (h.old ha2) (h.old ha1) (qdN y1 (h.oldS s5))) rfl fun r1 w7 h hF=>X0 2 rfl (qf rfl hF ?_ ?_))))<;>intro hF
  ·refine X0 4 rfl ?_
   obtain rfl:=qa hF;replace hF:=hK1
   exact rb h hF rfl
  refine X2 9 0 0 h rfl ?_
  obtain ⟨y2,hy2,hF,he2,b3,_,q2,cs4,hp2,hq2,rfl,hc5⟩:=s5.ix hF
  refine zxe hp2 hq2 he2 rfl (zc 0 (hc5.below h.below) rfl ?_)
  obtain ⟨y3,hy3,hF,he3,b4,_,q3,cs5,hp3,hq3,rfl,hc6⟩:=(h.sl 1 rfl).1.ix hF
  refine zx hp3 hq3 ⟨he3.1,qak he3.2.1 (h.sl 1 rfl).2⟩ rfl (zc 0 hc6 rfl (zp1 rfl ?_))
  obtain ⟨y4,hy4,hF,he4,b5,_,q4,cs6,hp4,hq4,rfl,hc7⟩:=(h.sl 1 rfl).1.ix hF
  refine zx hp4 hq4 ⟨he4.1,qak he4.2.1 (h.sl 1 rfl).2⟩ rfl (qc1 qc 1 0 (W64 (y3+1)) h rfl hy4 hp4 hq4 rfl hc7 rfl rfl rfl rfl rfl rfl rfl fun w8 h=>X0 6 rfl ?_)
  replace h:=h.pick [1,2,3] rfl
  exact rK ⟨_,_,hF,rfl,h⟩ rfl
 refine qr rfl ?_
 obtain rfl:=qa hF;replace hF:=hK1
 refine X1 8 1 h rfl ?_
 obtain ⟨o2,hF,hK2⟩:=qg hF
 refine qm ?_
 replace h:=h.pick [0,1] rfl
 refine rL (fun m e w'=>∃ (x3:(List Int)) (i2:Int),qa9 a_1 m x3 i2=some o2∧e=[(3,.pointer (some ⟨bb2,0,none⟩)),(5,.slice p5 x1.length x1.length),(49,.slice p4 a_1.Af.length k4),(50,.int .i64 (a_1.Af.length:Int)),(51,.int .i64 i2)]∧SH w w' [Ch.own S1 (x3:List Int) [.slice p5 x1.length x1.length],Ch.box bb2 (qay a_1 p2 p3 p4 k2 k3 k4) 45]) n ⟨_,_,hF,rfl,h⟩ rfl ?_
 rintro m2 e2 w9 ⟨x3,i2,hF,rfl,h⟩
 rcases m2 with _|m2
 ·cases hF
 refine X0 5 rfl (qf rfl hF ?_ ?_)<;>intro hF
 ·refine zKSBSR ?_
  obtain ⟨y5,hy5,hF,he5,b6,_,q5,cs7,hp5,hq5,hr6,hc9⟩:=s4.ix hF
  obtain rfl:=qau hr6
  refine zxe hp5 hq5 he5 rfl (zc 0 (hc9.below h.below) rfl (qv qc h rfl rfl rfl fun w10 bb4 h=>zs 0 h rfl fun w11 h=>zNSS ?_))
  obtain ⟨KF1,hKF1,o3,hF,hK3⟩:=bindE hF
  refine qcy (fun e w'=>∃ (b7:Bool),KF1 b7=some o2∧e=[(3,.pointer (some ⟨bb2,0,none⟩)),(5,.slice p5 x1.length x1.length),(9,.pointer (some ⟨bb4,0,none⟩)),(49,.slice p4 a_1.Af.length k4),(50,.int .i64 (a_1.Af.length:Int)),(51,.int .i64 i2),(69,.bool b7)]∧SH w w' [Ch.box bb4 (qkY y5) 302,Ch.own S1 (x3:List Int) [.slice p5 x1.length x1.length],Ch.box bb2 (qay a_1 p2 p3 p4 k2 k3 k4) 45]) ?_ ?_
  ·refine X1 5 0 h rfl (qd (t:=58) hF rfl ?_ ?_)<;>intro hF
   ·refine X1 8 0 h rfl (qd (t:=63) hF rfl ?_ ?_)<;>intro hF
    ·refine X0 7 rfl ?_
     obtain rfl:=qa hF
     exact rG ⟨_,hK3,rfl,h⟩ rfl
    refine X2 7 2 0 h rfl (zcB h hF (qcR (h.old ha2)) rfl fun r2 w13 h hF=>X0 4 rfl ?_)
    obtain rfl:=qa hF
    exact rG ⟨_,hK3,rfl,h⟩ rfl
   refine X2 12 2 0 h rfl (zcB h hF (qcR (h.old ha2)) rfl fun r3 w14 h hF=>X0 4 rfl ?_)
   obtain rfl:=qa hF
   exact rG ⟨_,hK3,rfl,h⟩ rfl
  rintro e3 w15 ⟨b7,hF,rfl,h⟩
  subst hKF1
  refine qf rfl hF ?_ ?_<;>intro hF
  ·refine X0 4 rfl ?_
   obtain rfl:=qa hF;replace hF:=hK2
   exact rb h hF rfl
  refine X1 7 0 h rfl (qf rfl hF ?_ ?_)<;>intro hF
  ·refine X1 4 0 h rfl ?_
   obtain ⟨y6,hy6,hF,he6,b8,_,q6,cs8,hp6,hq6,rfl,hc12⟩:=(h.sl 1 rfl).1.ix hF
   refine zx hp6 hq6 ⟨he6.1,qak he6.2.1 (h.sl 1 rfl).2⟩ rfl (zc 0 hc12 rfl (zp1 rfl ?_))
   obtain ⟨y7,hy7,hF,he7,b9,_,q7,cs9,hp7,hq7,rfl,hc13⟩:=(h.sl 1 rfl).1.ix hF
   refine zx hp7 hq7 ⟨he7.1,qak he7.2.1 (h.sl 1 rfl).2⟩ rfl (qc1 qc 1 0 (W64 (y6+1)) h rfl hy7 hp7 hq7 rfl hc13 rfl rfl rfl rfl rfl rfl rfl fun w12 h=>X0 6 rfl ?_)
   replace h:=h.pick [1,2] rfl
   exact rK ⟨_,_,hF,rfl,h⟩ rfl
  refine X0 6 rfl ?_
  replace h:=h.pick [1,2] rfl
  exact rK ⟨_,_,hF,rfl,h⟩ rfl
 refine qr rfl ?_
 obtain rfl:=qa hF;replace hF:=hK2
 exact X0 3 rfl (zcB h hF (qdm (h.own 0 rfl)) rfl fun r4 w16 h hF=>X0 3 rfl (rb h hF rfl))
def qaL (i1:Int) (y1:qe):Nat→(List Tplace)→Int→Option ((List Tplace) × Int)
 | 0,_,_=>none
 | n+1,x2,i2 =>
  bif decide (i2<(y1.Ah.length:Int)) then
   (idx y1.Ah i2).bind fun y2 =>
   (appS x2 ([(⟨i1,i2,y2,(i2==(W64 ((y1.Ah.length:Int)-1)))⟩:Tplace)]:List Tplace)).bind fun x3 =>
   qaL i1 y1 n x3 (W64 (i2+1))
  else
   some (x2,i2)
def qaK (d:qb):Nat→(List Tplace)→Int→Option ((List Tplace) × Int)
 | 0,_,_=>none
 | n+1,x4,i3 =>
  bif decide (i3<(d.Af.length:Int)) then
   (idx d.Af i3).bind fun y3 =>
   (appS x4 ([(⟨(-1),i3,y3.Bo,(y3.Bm==1)⟩:Tplace)]:List Tplace)).bind fun x5 =>
   qaK d n x5 (W64 (i3+1))
  else
   some (x4,i3)
def qaM (d:qb):Nat→(List Tplace)→Int→Option ((List Tplace) × Int)
 | 0,_,_=>none
 | n+1,x1,i1 =>
  bif decide (i1<(d.Aa.length:Int)) then
   (idx d.Aa i1).bind fun y1 =>
   (qaL i1 y1 n x1 0).bind fun o=>match o with
   | (x2,_) =>
    qaM d n x2 (W64 (i1+1))
  else
   some (x1,i1)
def qa4 (n:Nat) (d:qb):Option (List Tplace) :=
 (qaM d n ([]:List Tplace) 0).bind fun o=>match o with
 | (x1,_) =>
  (qaK d n x1 0).bind fun o=>match o with
  | (x4,_) =>
   some x4
theorem qcv {d:qb} (ha1:GoT.R w (old w) d cs1) {r:(List Tplace)} (hF:qa4 n d=some r):RetV Tryz.prog 140 [GoT.v qb cs1] w r:=by
 obtain ⟨p1,k1,p2,k2,p3,k3,rfl,s1,s2,s3⟩:=qW ha1
 refine zV 61 Tryz.func140 rfl fun h=>zSR (qt h rfl rfl fun w1 bb1 h=>X1 14 0 h rfl ?_)
 replace h:=h.nil (α:=Tplace)
 obtain ⟨o1,hF,hK1⟩:=qg hF
 refine qm (rL (fun m e w'=>∃ (S1:Nat→Prop) (p4:Option Addr) (ln1:Nat) (k4:Nat) (x1:(List Tplace)) (i1:Int),qaM d m x1 i1=some o1∧e=[(1,.pointer (some ⟨bb1,0,none⟩)),(3,.slice p4 ln1 k4),(11,.slice p1 d.Aa.length k1),(12,.int .i64 (d.Aa.length:Int)),(13,.int .i64 i1)]∧SH w w' [Ch.own S1 (x1:List Tplace) [.slice p4 ln1 k4],Ch.box bb1 (qay d p1 p2 p3 k1 k2 k3) 45]) n ⟨_,_,_,_,_,_,hF,rfl,h⟩ rfl ?_)
 rintro m1 e1 w2 ⟨S1,p4,ln1,k4,x1,i1,hF,rfl,h⟩
 obtain rfl:=(h.sl 0 rfl).2
 rcases m1 with _|m1
 ·cases hF
 refine X0 5 rfl (qf rfl hF ?_ ?_)<;>intro hF
 ·refine X0 6 rfl ?_
  obtain ⟨y1,hy1,hF,he1,b1,_,q1,cs2,hp1,hq1,hr1,hc2⟩:=s1.ix hF
  obtain ⟨p5,k5,rfl,s4⟩:=qI hr1
  refine zxe hp1 hq1 he1 rfl (zc 0 (hc2.below h.below) rfl (qv qc h rfl rfl rfl fun w3 bb2 h=>zp1 rfl (zs 0 h rfl fun w4 h=>X1 8 0 h rfl ?_)))
  obtain ⟨o2,hF,hK2⟩:=qg hF
  refine qm (rL (fun m e w'=>∃ (S2:Nat→Prop) (p6:Option Addr) (ln2:Nat) (k6:Nat) (x2:(List Tplace)) (i2:Int),qaL i1 y1 m x2 i2=some o2∧e=[(1,.pointer (some ⟨bb1,0,none⟩)),(3,.slice p6 ln2 k6),(4,.int .i64 i1),(5,.pointer (some ⟨bb2,0,none⟩)),(11,.slice p1 d.Aa.length k1),(12,.int .i64 (d.Aa.length:Int)),(13,.int .i64 i1),(19,.slice p5 y1.Ah.length k5),(20,.int .i64 (y1.Ah.length:Int)),(21,.int .i64 i2)]∧SH w w' [Ch.box bb2 (qf6 y1 p5 k5) 184,Ch.own S2 (x2:List Tplace) [.slice p6 ln2 k6],Ch.box bb1 (qay d p1 p2 p3 k1 k2 k3) 45]) m1 ⟨_,_,_,_,_,_,hF,rfl,h⟩ rfl ?_)
  rintro m2 e2 w5 ⟨S2,p6,ln2,k6,x2,i2,hF,rfl,h⟩
  obtain rfl:=(h.sl 1 rfl).2
  rcases m2 with _|m2
  ·cases hF
  refine X0 5 rfl (qf rfl hF ?_ ?_)<;>intro hF
  ·refine X0 6 rfl ?_
   obtain ⟨y2,hy2,hF,he2,b2,_,q2,cs3,hp2,hq2,rfl,hc4⟩:=s4.ix hF
   refine zxe hp2 hq2 he2 rfl (zc 0 (hc4.below h.below) rfl (X1 14 0 h rfl (r_v (qbf qc [0,1,2,3] [.tmp 27,.tmp 28,.tmp 29,.tmp 35] rfl rfl rfl rfl rfl rfl rfl rfl) rfl (qal qc [.tmp 36] _ ([(⟨i1,i2,y2,(i2==(W64 ((y1.Ah.length:Int)-1)))⟩:Tplace)]:List Tplace) h rfl rfl rfl rfl rfl rfl rfl rfl rfl ⟨(qg5 (⟨i1,i2,y2,(i2==(W64 ((y1.Ah.length:Int)-1)))⟩:Tplace)),trivial⟩ rfl fun w6 p7 S3 h=>?_))))
   obtain ⟨x3,hx1,hF⟩:=qg hF
   obtain ⟨g1,hx1⟩:=qaP hx1
   refine qdT qc 2 h rfl (h.sl 0 rfl).1 (h.sl 0 rfl).2 rfl rfl rfl rfl rfl rfl rfl rfl rfl g1 hx1 rfl fun w7 p8 k7 S4 h=>X0 7 rfl ?_
   replace h:=h.pick [1,2,3] rfl
   exact rK ⟨_,_,_,_,_,_,hF,rfl,h⟩ rfl
  refine qr rfl ?_
  obtain rfl:=qa hF;replace hF:=hK2
  refine X0 5 rfl ?_
  replace h:=h.pick [1,2] rfl
  exact rK ⟨_,_,_,_,_,_,hF,rfl,h⟩ rfl
 refine qr rfl ?_
 obtain rfl:=qa hF;replace hF:=hK1
 refine X1 8 1 h rfl ?_
 obtain ⟨o3,hF,hK3⟩:=qg hF
 refine qm ?_
 replace h:=h.pick [0] rfl
 refine rL (fun m e w'=>∃ (S5:Nat→Prop) (p9:Option Addr) (ln3:Nat) (k8:Nat) (x4:(List Tplace)) (i3:Int),qaK d m x4 i3=some o3∧e=[(3,.slice p9 ln3 k8),(42,.slice p3 d.Af.length k3),(43,.int .i64 (d.Af.length:Int)),(44,.int .i64 i3)]∧SH w w' [Ch.own S5 (x4:List Tplace) [.slice p9 ln3 k8]]) n ⟨_,_,_,_,_,_,hF,rfl,h⟩ rfl ?_
 rintro m3 e3 w8 ⟨S5,p9,ln3,k8,x4,i3,hF,rfl,h⟩
 obtain rfl:=(h.sl 0 rfl).2
 rcases m3 with _|m3
 ·cases hF
 refine X0 5 rfl (qf rfl hF ?_ ?_)<;>intro hF
 ·refine X0 6 rfl ?_
  obtain ⟨y3,hy3,hF,he3,b3,_,q3,cs4,hp3,hq3,hr3,hc6⟩:=s3.ix hF
  obtain rfl:=qau hr3
  refine zxe hp3 hq3 he3 rfl (zc 0 (hc6.below h.below) rfl (qv qc h rfl rfl rfl fun w9 bb3 h=>zp1 rfl (zs 0 h rfl fun w10 h=>X2 9 0 0 h rfl (r_v (qbf qc [0,1,2,3] [.const (.int .i64 (-1)),.tmp 50,.tmp 52,.tmp 55] rfl rfl rfl rfl rfl rfl rfl rfl) rfl (qal qc [.tmp 56] _ ([(⟨(-1),i3,y3.Bo,(y3.Bm==1)⟩:Tplace)]:List Tplace) h rfl rfl rfl rfl rfl rfl rfl rfl rfl ⟨(qg5 (⟨(-1),i3,y3.Bo,(y3.Bm==1)⟩:Tplace)),trivial⟩ rfl fun w11 p10 S6 h=>?_)))))
  obtain ⟨x5,hx2,hF⟩:=qg hF
  obtain ⟨g2,hx2⟩:=qaP hx2
  refine qdT qc 2 h rfl (h.sl 0 rfl).1 (h.sl 0 rfl).2 rfl rfl rfl rfl rfl rfl rfl rfl rfl g2 hx2 rfl fun w12 p11 k9 S7 h=>X0 7 rfl ?_
  replace h:=h.pick [2] rfl
  exact rK ⟨_,_,_,_,_,_,hF,rfl,h⟩ rfl
 refine qr rfl ?_
 obtain rfl:=qa hF;replace hF:=hK3
 refine X0 5 rfl ?_
 obtain rfl:=qa hF
 exact rO 0 h rfl ⟨rfl,trivial⟩
def qap (a_w:qC):Nat→Int→Option (Flow Bool Int)
 | 0,_=>none
 | n+1,i1 =>
  bif decide (i1<(a_w.Ai.length:Int)) then
   (idx a_w.Ai i1).bind fun y1 =>
   bif (i1==0) then
    bif (y1 != (-1)) then some (.ret false) else
    (idx a_w.Bn 0).bind fun y2 =>
    bif (y2 != 0) then some (.ret false) else
    bif decide (i1 > 0) then
     (qaj n y1 0 (W64 (i1-1))).bind fun r1 =>
     bif (!r1) then some (.ret false) else
     qap a_w n (W64 (i1+1))
    else
     qap a_w n (W64 (i1+1))
   else
    bif decide (i1 > 0) then
     (qaj n y1 0 (W64 (i1-1))).bind fun r2 =>
     bif (!r2) then some (.ret false) else
     qap a_w n (W64 (i1+1))
    else
     qap a_w n (W64 (i1+1))
  else
   some (.nxt i1)
def qeg (n:Nat) (a_w:qC):Option Bool :=
 (qap a_w n 0).bind fun o=>match o with
 | .ret r=>some r
 | .nxt _ =>
  some true
theorem qjb {a_w:qC} (ha1:GoT.R w (old w) a_w cs1) {r:Bool} (hF:qeg n a_w=some r):RetV Tryz.prog 219 [GoT.v qC cs1] w r:=by
 obtain ⟨p1,k1,p2,k2,p3,k3,p4,k4,rfl,s1,s2,s3,s4⟩:=qaN ha1
 refine zV 38 Tryz.func219 rfl fun h=>zSR (qt h rfl rfl fun w1 bb1 h=>X1 10 0 h rfl ?_)
 obtain ⟨o1,hF,hK1⟩:=qg hF
 refine qm (rL (fun m e w'=>∃ (i1:Int),qap a_w m i1=some o1∧e=[(1,.pointer (some ⟨bb1,0,none⟩)),(6,.slice p1 a_w.Ai.length k1),(7,.int .i64 (a_w.Ai.length:Int)),(8,.int .i64 i1)]∧SH w w' [Ch.box bb1 (qfn a_w p1 p2 p3 p4 k1 k2 k3 k4) 215]) n ⟨_,hF,rfl,h⟩ rfl ?_)
 rintro m1 e1 w2 ⟨i1,hF,rfl,h⟩
 rcases m1 with _|m1
 ·cases hF
 refine X0 5 rfl (qf rfl hF ?_ ?_)<;>intro hF
 ·refine X0 6 rfl ?_
  obtain ⟨y1,hy1,hF,he1,b1,_,q1,cs2,hp1,hq1,rfl,hc2⟩:=s1.ix hF
  refine zxe hp1 hq1 he1 rfl (zc 0 (hc2.below h.below) rfl (X0 8 rfl (qd (t:=15) hF rfl ?_ ?_)))<;>intro hF
  ·refine X0 6 rfl (qd (t:=18) hF rfl ?_ ?_)<;>intro hF
   ·refine X0 20 rfl (qbH rfl rfl (X0 4 rfl ?_))
    obtain rfl:=qa hF;replace hF:=hK1
    exact rb h hF rfl
   refine X1 5 0 h rfl ?_
   obtain ⟨y2,hy2,hF,he2,b2,_,q2,cs3,hp2,hq2,rfl,hc3⟩:=s2.ix hF
   refine zxe hp2 hq2 he2 rfl (X0 1 rfl (zc 0 (hc3.below h.below) rfl (X0 6 rfl (qd (t:=26) hF rfl ?_ ?_))))<;>intro hF
   ·refine X0 11 rfl (qbH rfl rfl (X0 4 rfl ?_))
    obtain rfl:=qa hF;replace hF:=hK1
    exact rb h hF rfl
   refine X0 6 rfl (qd (t:=29) hF rfl ?_ ?_)<;>intro hF
   ·refine X0 7 rfl (zcB h hF qZ rfl fun r1 w3 h hF=>X0 6 rfl (qf rfl hF ?_ ?_))<;>intro hF
    ·refine X0 4 rfl ?_
     obtain rfl:=qa hF;replace hF:=hK1
     exact rb h hF rfl
    exact X0 6 rfl (rK ⟨_,hF,rfl,h⟩ rfl)
   exact X0 9 rfl (qd3 rfl rfl (X0 6 rfl (rK ⟨_,hF,rfl,h⟩ rfl)))
  refine X0 17 rfl (qd (t:=29) hF rfl ?_ ?_)<;>intro hF
  ·refine X0 7 rfl (zcB h hF qZ rfl fun r2 w4 h hF=>X0 6 rfl (qf rfl hF ?_ ?_))<;>intro hF
   ·refine X0 4 rfl ?_
    obtain rfl:=qa hF;replace hF:=hK1
    exact rb h hF rfl
   exact X0 6 rfl (rK ⟨_,hF,rfl,h⟩ rfl)
  exact X0 9 rfl (qd3 rfl rfl (X0 6 rfl (rK ⟨_,hF,rfl,h⟩ rfl)))
 refine qr rfl ?_
 obtain rfl:=qa hF;replace hF:=hK1
 exact X0 4 rfl (rb h hF rfl)
def qht (n:Nat) (a_w:qC) (sinks:Int):Option Bool :=
 (qaA n a_w.Ai).bind fun r1 =>
 (qaj n r1 1 8).bind fun r2 =>
 bif r2 then
  (qaA n a_w.Bn).bind fun r3 =>
  bif (r3==r1) then
   (qaA n a_w.Bk).bind fun r4 =>
   bif (r4==r1) then
    (qeg n a_w).bind fun r5 =>
    bif r5 then
     (qbm n a_w.Bn 0 1000).bind fun r6 =>
     bif r6 then
      (qbm n a_w.Bk 0 500).bind fun r7 =>
      bif r7 then
       (qaA n a_w.Bc).bind fun r8 =>
       bif (r8==sinks) then
        (qbm n a_w.Bc 0 (W64 (r1-1))).bind fun r9 =>
        some r9
       else
        some false
      else
       some false
     else
      some false
    else
     some false
   else
    some false
  else
   some false
 else
  some false
theorem qlw {a_w:qC} {sinks:Int} (ha1:GoT.R w (old w) a_w cs1) {r:Bool} (hF:qht n a_w sinks=some r):RetV Tryz.prog 141 [GoT.v qC cs1,.int .i64 sinks] w r:=by
 obtain ⟨p1,k1,p2,k2,p3,k3,p4,k4,rfl,s1,s2,s3,s4⟩:=qaN ha1
 refine zV 53 Tryz.func141 rfl fun h=>zSR (qt h rfl rfl fun w1 bb1 h=>X1 6 0 h rfl (zcI h hF (qa7 ⟨_,_,rfl,(h.oldS s1)⟩) rfl fun r1 w2 h hF=>X0 5 rfl (zcB h hF qZ rfl fun r2 w3 h hF=>zp1 rfl (qd (t:=11) hF rfl ?_ ?_))))<;>intro hF
 ·refine X1 5 0 h rfl (zcI h hF (qa7 ⟨_,_,rfl,(h.oldS s2)⟩) rfl fun r3 w4 h hF=>X0 6 rfl (qd (t:=18) hF rfl ?_ ?_))<;>intro hF
  ·refine X1 5 0 h rfl (zcI h hF (qa7 ⟨_,_,rfl,(h.oldS s3)⟩) rfl fun r4 w5 h hF=>X0 6 rfl (qd (t:=25) hF rfl ?_ ?_))<;>intro hF
   ·refine X1 3 0 h rfl (zcB h hF (qjb (h.old ha1)) rfl fun r5 w6 h hF=>zp2 rfl (qd (t:=29) hF rfl ?_ ?_))<;>intro hF
    ·refine X1 5 0 h rfl (zcB h hF (qbV ⟨_,_,rfl,(h.oldS s2)⟩) rfl fun r6 w7 h hF=>zp2 rfl (qd (t:=34) hF rfl ?_ ?_))<;>intro hF
     ·refine X1 5 0 h rfl (zcB h hF (qbV ⟨_,_,rfl,(h.oldS s3)⟩) rfl fun r7 w8 h hF=>zp2 rfl (qd (t:=39) hF rfl ?_ ?_))<;>intro hF
      ·refine X1 5 0 h rfl (zcI h hF (qa7 ⟨_,_,rfl,(h.oldS s4)⟩) rfl fun r8 w9 h hF=>X0 6 rfl (qd (t:=46) hF rfl ?_ ?_))<;>intro hF
       ·exact X1 9 0 h rfl (zcB h hF (qbV ⟨_,_,rfl,(h.oldS s4)⟩) rfl fun r9 w10 h hF=>X0 3 rfl (rb h hF rfl))
       exact X0 8 rfl (rb h hF rfl)
      exact X0 15 rfl (rb h hF rfl)
     exact X0 20 rfl (rb h hF rfl)
    exact X0 25 rfl (rb h hF rfl)
   exact X0 29 rfl (rb h hF rfl)
  exact X0 36 rfl (rb h hF rfl)
 exact X0 43 rfl (rb h hF rfl)
def qcF (b:qk) (x2:(List Int)):Nat→Int→Option (Flow Bool Int)
 | 0,_=>none
 | n+1,i2 =>
  bif decide (i2<(b.Ac.length:Int)) then
   (idx b.Ac i2).bind fun y4 =>
   (idx x2 i2).bind fun y5 =>
   (qht n y4 y5).bind fun r2 =>
   bif (!r2) then some (.ret false) else
   qcF b x2 n (W64 (i2+1))
  else
   some (.nxt i2)
def qbw (r1:(List Tplace)):Nat→(List Int)→Int→Option ((List Int) × Int)
 | 0,_,_=>none
 | n+1,x2,i1 =>
  bif decide (i1<(r1.length:Int)) then
   (idx r1 i1).bind fun y1 =>
   bif (!y1.drives) then
    (idx x2 y1.net).bind fun y2 =>
    (idx x2 y1.net).bind fun _ =>
    qbw r1 n (setS x2 y1.net (W64 (y2+1))) (W64 (i1+1))
   else
    qbw r1 n x2 (W64 (i1+1))
  else
   some (x2,i1)
def qgC (n:Nat) (b:qk):Option Bool :=
 (
  (qfJ n (⟨b.As.Ak⟩:ql) (⟨b.Ab.Aa,b.Ab.Ah,b.Ab.Af⟩:qb)).bind fun r3 =>
  bif (!r3) then some true else
  some ((b.Ac.length:Int) != (b.Ab.Ah.length:Int))).bind fun b1 =>
 bif b1 then some false else
 (mkS (b.Ac.length:Int) (0:Int)).bind fun x1 =>
 (qa4 n (⟨b.Ab.Aa,b.Ab.Ah,b.Ab.Af⟩:qb)).bind fun r1 =>
 (qbw r1 n x1 0).bind fun o=>match o with
 | (x2,_) =>
  (qcF b x2 n 0).bind fun o=>match o with
  | .ret r=>some r
  | .nxt _ =>
   some true
theorem qkL {b:qk} (ha1:GoT.R w (old w) b cs1) {r:Bool} (hF:qgC n b=some r):RetV Tryz.prog 59 [GoT.v qk cs1] w r:=by
 obtain ⟨p1,k1,p2,k2,p3,k3,p4,k4,p5,k5,rfl,s1,s2,s3,s4,s5⟩:=qY ha1
 refine zV 63 Tryz.func59 rfl fun h=>zSR (qt h rfl rfl fun w1 bb1 h=>X0 4 rfl ?_)
 obtain ⟨KF1,hKF1,o3,hF,hK3⟩:=bindE hF
 refine qcy (fun e w'=>∃ (b1:Bool),KF1 b1=some r∧e=[(1,.pointer (some ⟨bb1,0,none⟩)),(23,.bool b1)]∧SH w w' [Ch.box bb1 (qbL b p1 p2 p3 p4 p5 k1 k2 k3 k4 k5) 48]) ?_ ?_
 ·refine X2 5 0 0 h rfl (zcB h hF (qkc (qdj _ (h.oldS s1)) (qaJ _ (h.oldS s2) (h.oldS s3) (h.oldS s4))) rfl fun r3 w12 h hF=>zp2 rfl (qd (t:=14) hF rfl ?_ ?_))<;>intro hF
  ·refine X0 10 rfl ?_
   obtain rfl:=qa hF
   exact rG ⟨_,hK3,rfl,h⟩ rfl
  refine X2 18 0 0 h rfl ?_
  obtain rfl:=qa hF
  exact rG ⟨_,hK3,rfl,h⟩ rfl
 rintro e3 w13 ⟨b1,hF,rfl,h⟩
 subst hKF1
 refine qf rfl hF ?_ ?_<;>intro hF
 ·exact X0 4 rfl (rb h hF rfl)
 refine X1 6 0 h rfl ?_
 obtain ⟨x1,hx1,hF⟩:=qg hF
 obtain ⟨g1,g2,hx1⟩:=qbz hx1
 refine qcw qc Int h rfl rfl rfl rfl rfl rfl rfl rfl rfl g1 g2 hx1 rfl fun w2 S1 p6 h=>X1 7 1 h rfl (zcL h hF (qcv (qaJ _ (h.oldS s2) (h.oldS s3) (h.oldS s4))) rfl fun r1 w3 S2 p7 k6 h hF=>X0 3 rfl ?_)
 obtain ⟨o1,hF,hK1⟩:=qg hF
 refine qm (rL (fun m e w'=>∃ (x2:(List Int)) (i1:Int),qbw r1 m x2 i1=some o1∧e=[(1,.pointer (some ⟨bb1,0,none⟩)),(3,.slice p6 x1.length x1.length),(30,.slice p7 r1.length k6),(31,.int .i64 (r1.length:Int)),(32,.int .i64 i1)]∧SH w w' [Ch.own S2 (r1:List Tplace) [.slice p7 r1.length k6],Ch.own S1 (x2:List Int) [.slice p6 x1.length x1.length],Ch.box bb1 (qbL b p1 p2 p3 p4 p5 k1 k2 k3 k4 k5) 48]) n ⟨_,_,hF,rfl,h⟩ rfl ?_)
 rintro m1 e1 w4 ⟨x2,i1,hF,rfl,h⟩
 rcases m1 with _|m1
 ·cases hF
 refine X0 5 rfl (qf rfl hF ?_ ?_)<;>intro hF
 ·refine zKSBSR ?_
  obtain ⟨y1,hy1,hF,he1,b2,_,q1,cs2,hp1,hq1,hr2,hc3⟩:=(h.sl 0 rfl).1.ix hF
  obtain rfl:=qd9 hr2
  refine zx hp1 hq1 ⟨he1.1,qak he1.2.1 (h.sl 0 rfl).2⟩ rfl (zc 0 hc3 rfl (qv qc h rfl rfl rfl fun w5 bb2 h=>zs 0 h rfl fun w6 h=>X1 7 0 h rfl (qf rfl hF ?_ ?_)))<;>intro hF
  ·refine X1 4 0 h rfl ?_
   obtain ⟨y2,hy2,hF,he2,b3,_,q2,cs3,hp2,hq2,rfl,hc5⟩:=(h.sl 2 rfl).1.ix hF
   refine zx hp2 hq2 ⟨he2.1,qak he2.2.1 (h.sl 2 rfl).2⟩ rfl (zc 0 hc5 rfl (zp1 rfl ?_))
   obtain ⟨y3,hy3,hF,he3,b4,_,q3,cs4,hp3,hq3,rfl,hc6⟩:=(h.sl 2 rfl).1.ix hF
   refine zx hp3 hq3 ⟨he3.1,qak he3.2.1 (h.sl 2 rfl).2⟩ rfl (qc1 qc 2 0 (W64 (y2+1)) h rfl hy3 hp3 hq3 rfl hc6 rfl rfl rfl rfl rfl rfl rfl fun w7 h=>X0 6 rfl ?_)
   replace h:=h.pick [1,2,3] rfl
   exact rK ⟨_,_,hF,rfl,h⟩ rfl
  refine X0 6 rfl ?_
  replace h:=h.pick [1,2,3] rfl
  exact rK ⟨_,_,hF,rfl,h⟩ rfl
 refine qr rfl ?_
 obtain rfl:=qa hF;replace hF:=hK1
 refine X1 8 2 h rfl ?_
 obtain ⟨o2,hF,hK2⟩:=qg hF
 refine qm ?_
 replace h:=h.pick [1] rfl
 refine rL (fun m e w'=>∃ (i2:Int),qcF b x2 m i2=some o2∧e=[(3,.slice p6 x1.length x1.length),(48,.slice p5 b.Ac.length k5),(49,.int .i64 (b.Ac.length:Int)),(50,.int .i64 i2)]∧SH w w' [Ch.own S1 (x2:List Int) [.slice p6 x1.length x1.length]]) n ⟨_,hF,rfl,h⟩ rfl ?_
 rintro m2 e2 w8 ⟨i2,hF,rfl,h⟩
 rcases m2 with _|m2
 ·cases hF
 refine X0 5 rfl (qf rfl hF ?_ ?_)<;>intro hF
 ·refine X0 6 rfl ?_
  obtain ⟨y4,hy4,hF,he4,b5,_,q4,cs5,hp4,hq4,hr5,hc8⟩:=s5.ix hF
  obtain ⟨p8,k7,p9,k8,p10,k9,p11,k10,rfl,s6,s7,s8,s9⟩:=qaN hr5
  refine zxe hp4 hq4 he4 rfl (zc 0 (hc8.below h.below) rfl (qv qc h rfl rfl rfl fun w9 bb3 h=>zp1 rfl (zs 0 h rfl fun w10 h=>zNS (rD (Y1 1 0 h rfl ?_)))))
  refine zd2 rfl ?_
  obtain ⟨y5,hy5,hF,he5,b6,_,q5,cs6,hp5,hq5,rfl,hc9⟩:=(h.sl 1 rfl).1.ix hF
  refine zdx hp5 hq5 ⟨he5.1,qak he5.2.1 (h.sl 1 rfl).2⟩ rfl (zdc 0 hc9 rfl ?_)
  obtain ⟨r2,hr7,hF⟩:=qg hF
  refine qbn r2 (vsB _) (cB 141 rfl) (fun _ hb=>qlw (qgM y4 ((h.ext hb).oldS s6) ((h.ext hb).oldS s7) ((h.ext hb).oldS s8) ((h.ext hb).oldS s9)) hr7) rfl rfl rfl rfl (zd1 rfl (dN h fun w11 h=>qf rfl hF ?_ ?_))<;>intro hF
  ·refine X0 4 rfl ?_
   obtain rfl:=qa hF;replace hF:=hK2
   exact rb h hF rfl
  refine X0 6 rfl ?_
  replace h:=h.pick [1] rfl
  exact rK ⟨_,hF,rfl,h⟩ rfl
 refine qr rfl ?_
 obtain rfl:=qa hF;replace hF:=hK2
 exact X0 4 rfl (rb h hF rfl)
end Go.Fw


namespace Go.Fw
open Go
def qb6 (a:(List Int)):Nat:=a.length
theorem qcV {a:(List Int)} (h:(rngL rngI) a) (w:qb6 a≤1048576):(okL okI) a :=
 ⟨by simp only [qb6] at w;omega,fun x hx=>h.2 x hx⟩
def qeX (x:qp):Prop:=(rngL rngI) x.Bd∧(rngL rngI) x.Be∧(rngL rngI) x.Ay
def qdk (x:qp):Nat:=qb6 x.Bd+qb6 x.Be+qb6 x.Ay
structure qfo (x:qp):Prop where
 Bd:(okL okI) x.Bd
 Be:(okL okI) x.Be
 Ay:(okL okI) x.Ay
theorem qom {x:qp} (h:qeX x) (w:qdk x≤1048576):qfo x:=⟨qcV (h.1) (by simp only [qdk] at w;omega),qcV (h.2.1) (by simp only [qdk] at w;omega),qcV (h.2.2) (by simp only [qdk] at w;omega)⟩
def qdK (a:(List qp)):Nat:=a.length+(a.map fun x=>qdk x).sum
theorem qku {a:(List qp)} (h:(rngL qeX) a) (w:qdK a≤1048576):(okL qfo) a :=
 ⟨by simp only [qdK] at w;omega,fun x hx=>qom (h.2 x hx) (by have:=qcA (wt:=fun x:qp=>qdk x) hx;simp only [qdK] at w;omega)⟩
def qh5 (x:qL):Prop:=rngI x.Av∧rngI x.Bb∧rngI x.To∧rngI x.Bi∧(rngL qeX) x.Bh∧(rngL qeX) x.Az
def qhp (x:qL):Nat:=qdK x.Bh+qdK x.Az
structure qjo (x:qL):Prop where
 Av:okI x.Av
 Bb:okI x.Bb
 To:okI x.To
 Bi:okI x.Bi
 Bh:(okL qfo) x.Bh
 Az:(okL qfo) x.Az
theorem qqt {x:qL} (h:qh5 x) (w:qhp x≤1048576):qjo x:=⟨h.1,h.2.1,h.2.2.1,h.2.2.2.1,qku (h.2.2.2.2.1) (by simp only [qhp] at w;omega),qku (h.2.2.2.2.2) (by simp only [qhp] at w;omega)⟩
theorem qet {a:(List Int)} (h:qb6 a≤1048576):Ev (fun n=>qaS n a a) true:=by
 have hl:a.length≤1048576:=by simp only [qb6] at h;omega
 unfold qaS
 exact Ev.ff (by simp) (Ev.bind (b:=.nxt (a.length:Int)) (qe1 (eqf:=fun _ x y=>some (!(x != y))) (fun x _=>Ev.now (by simp))
  (fun n=>by simp only [qc4,qj (je _),cond_false])
  (fun n j x hx=>by
   have hj:=(List.getElem?_eq_some_iff.1 hx).1
   simp only [qc4,qi hj,cond_true,qU hx,jd,Bool.not_not,wS j])) .done)
theorem qpS {a:qp} (h:qdk a≤1048576):Ev (fun n=>qfe n a a) true:=by
 unfold qfe
 simp only [qdk] at h
 exact Ev.bind (qet (a:=a.Bd) (by omega)) (Ev.ff rfl (Ev.bind (qet (a:=a.Be) (by omega)) (Ev.ff rfl (Ev.bind (qet (a:=a.Ay) (by omega)) (Ev.ff rfl (.done))))))
theorem ql8 {a:(List qp)} (h:qdK a≤1048576):Ev (fun n=>qeG n a a) true:=by
 have hl:a.length≤1048576:=by simp only [qdK] at h;omega
 unfold qeG
 exact Ev.ff (by simp) (Ev.bind (b:=.nxt (a.length:Int)) (qe1 (eqf:=qfe) (fun x hx=>qpS (by have:=qcA (wt:=fun x:qp=>qdk x) hx;simp only [qdK] at h;omega))
  (fun n=>by simp only [qdc,qj (je _),cond_false])
  (fun n j x hx=>by
   have hj:=(List.getElem?_eq_some_iff.1 hx).1
   simp only [qdc,qi hj,cond_true,qU hx,jd,wS j])) .done)
theorem qrF {a:qL} (h:qhp a≤1048576):Ev (fun n=>qgZ n a a) true:=by
 unfold qgZ
 simp only [qhp] at h
 exact Ev.ff qaZ (Ev.ff qaZ (Ev.ff qaZ (Ev.ff qaZ (Ev.bind (ql8 (a:=a.Bh) (by omega)) (Ev.ff rfl (Ev.bind (ql8 (a:=a.Az) (by omega)) (Ev.ff rfl (.done))))))))
def qg3 (a:(List qL)):Nat:=a.length+(a.map fun x=>qhp x).sum
theorem qoL {a:(List qL)} (h:(rngL qh5) a) (w:qg3 a≤1048576):(okL qjo) a :=
 ⟨by simp only [qg3] at w;omega,fun x hx=>qqt (h.2 x hx) (by have:=qcA (wt:=fun x:qL=>qhp x) hx;simp only [qg3] at w;omega)⟩
theorem qrc {a:(List qL)} (h:qg3 a≤1048576):Ev (fun n=>qhn n a a) true:=by
 have hl:a.length≤1048576:=by simp only [qg3] at h;omega
 unfold qhn
 exact Ev.ff (by simp) (Ev.bind (b:=.nxt (a.length:Int)) (qe1 (eqf:=qgZ) (fun x hx=>qrF (by have:=qcA (wt:=fun x:qL=>qhp x) hx;simp only [qg3] at h;omega))
  (fun n=>by simp only [qed,qj (je _),cond_false])
  (fun n j x hx=>by
   have hj:=(List.getElem?_eq_some_iff.1 hx).1
   simp only [qed,qi hj,cond_true,qU hx,jd,wS j])) .done)
def qhW (x:qR):Prop:=rngS x.Ar∧rngI x.Bm∧rngI x.Bk∧rngB x.Bf
def qiP (x:qR):Nat:=x.Ar.size
structure qip (x:qR):Prop where
 Ar:okS x.Ar
 Bm:okI x.Bm
 Bk:okI x.Bk
 Bf:okT x.Bf
theorem qqi {x:qR} (h:qhW x) (w:qiP x≤1048576):qip x:=⟨(by unfold okS;simp only [qiP] at w;omega),h.2.1,h.2.2.1,trivial⟩
def qgS (a:(List qR)):Nat:=a.length+(a.map fun x=>qiP x).sum
theorem qoP {a:(List qR)} (h:(rngL qhW) a) (w:qgS a≤1048576):(okL qip) a :=
 ⟨by simp only [qgS] at w;omega,fun x hx=>qqi (h.2 x hx) (by have:=qcA (wt:=fun x:qR=>qiP x) hx;simp only [qgS] at w;omega)⟩
def qgW (x:qn):Prop:=rngS x.Ar∧rngI x.Av∧(rngL qhW) x.Ap∧(rngL qh5) x.Aj∧(rngL rngI) x.Bg∧rngI x.Br∧rngI x.Bj
def qey (x:qn):Nat:=x.Ar.size+qgS x.Ap+qg3 x.Aj+qb6 x.Bg
structure qiU (x:qn):Prop where
 Ar:okS x.Ar
 Av:okI x.Av
 Ap:(okL qip) x.Ap
 Aj:(okL qjo) x.Aj
 Bg:(okL okI) x.Bg
 Br:okI x.Br
 Bj:okI x.Bj
theorem qpe {x:qn} (h:qgW x) (w:qey x≤1048576):qiU x:=⟨(by unfold okS;simp only [qey] at w;omega),h.2.1,qoP (h.2.2.1) (by simp only [qey] at w;omega),qoL (h.2.2.2.1) (by simp only [qey] at w;omega),qcV (h.2.2.2.2.1) (by simp only [qey] at w;omega),h.2.2.2.2.2.1,h.2.2.2.2.2.2⟩
def qe7 (a:(List qn)):Nat:=a.length+(a.map fun x=>qey x).sum
theorem qnW {a:(List qn)} (h:(rngL qgW) a) (w:qe7 a≤1048576):(okL qiU) a :=
 ⟨by simp only [qe7] at w;omega,fun x hx=>qpe (h.2 x hx) (by have:=qcA (wt:=fun x:qn=>qey x) hx;simp only [qe7] at w;omega)⟩
def qhw (x:ql):Prop:=(rngL qgW) x.Ak
def qex (x:ql):Nat:=qe7 x.Ak
structure qeS (x:ql):Prop where
 Ak:(okL qiU) x.Ak
theorem qmF {x:ql} (h:qhw x) (w:qex x≤1048576):qeS x:=⟨qnW (h) (by simp only [qex] at w;omega)⟩
def qds (x:qe):Prop:=rngS x.Ar∧rngI x.Bl∧(rngL rngI) x.Ah
def qbp (x:qe):Nat:=x.Ar.size+qb6 x.Ah
structure qiO (x:qe):Prop where
 Ar:okS x.Ar
 Bl:okI x.Bl
 Ah:(okL okI) x.Ah
theorem ql3 {x:qe} (h:qds x) (w:qbp x≤1048576):qiO x:=⟨(by unfold okS;simp only [qbp] at w;omega),h.2.1,qcV (h.2.2) (by simp only [qbp] at w;omega)⟩
def qbP (a:(List qe)):Nat:=a.length+(a.map fun x=>qbp x).sum
theorem qlC {a:(List qe)} (h:(rngL qds) a) (w:qbP a≤1048576):(okL qiO) a :=
 ⟨by simp only [qbP] at w;omega,fun x hx=>ql3 (h.2 x hx) (by have:=qcA (wt:=fun x:qe=>qbp x) hx;simp only [qbP] at w;omega)⟩
def qel (a:(List ByteArray)):Nat:=a.length+(a.map fun x=>x.size).sum
theorem qmx {a:(List ByteArray)} (_:(rngL rngS) a) (w:qel a≤1048576):(okL okS) a :=
 ⟨by simp only [qel] at w;omega,fun x hx=>(by unfold okS;have:=qcA (wt:=fun x:ByteArray=>x.size) hx;simp only [qel] at w;omega)⟩
def qha (x:qO):Prop:=rngS x.Ar∧rngI x.Bm∧rngI x.Bo
def qg7 (x:qO):Nat:=x.Ar.size
structure qmQ (x:qO):Prop where
 Ar:okS x.Ar
 Bm:okI x.Bm
 Bo:okI x.Bo
theorem qoH {x:qO} (h:qha x) (w:qg7 x≤1048576):qmQ x:=⟨(by unfold okS;simp only [qg7] at w;omega),h.2.1,h.2.2⟩
def qfm (a:(List qO)):Nat:=a.length+(a.map fun x=>qg7 x).sum
theorem qn3 {a:(List qO)} (h:(rngL qha) a) (w:qfm a≤1048576):(okL qmQ) a :=
 ⟨by simp only [qfm] at w;omega,fun x hx=>qoH (h.2 x hx) (by have:=qcA (wt:=fun x:qO=>qg7 x) hx;simp only [qfm] at w;omega)⟩
def qhX (x:qb):Prop:=(rngL qds) x.Aa∧(rngL rngS) x.Ah∧(rngL qha) x.Af
def qd5 (x:qb):Nat:=qbP x.Aa+qel x.Ah+qfm x.Af
structure qgO (x:qb):Prop where
 Aa:(okL qiO) x.Aa
 Ah:(okL okS) x.Ah
 Af:(okL qmQ) x.Af
theorem qnr {x:qb} (h:qhX x) (w:qd5 x≤1048576):qgO x:=⟨qlC (h.1) (by simp only [qd5] at w;omega),qmx (h.2.1) (by simp only [qd5] at w;omega),qn3 (h.2.2) (by simp only [qd5] at w;omega)⟩
def qg0 (x:qC):Prop:=(rngL rngI) x.Ai∧(rngL rngI) x.Bn∧(rngL rngI) x.Bk∧(rngL rngI) x.Bc
def qeA (x:qC):Nat:=qb6 x.Ai+qb6 x.Bn+qb6 x.Bk+qb6 x.Bc
structure qjB (x:qC):Prop where
 Ai:(okL okI) x.Ai
 Bn:(okL okI) x.Bn
 Bk:(okL okI) x.Bk
 Bc:(okL okI) x.Bc
theorem qoN {x:qC} (h:qg0 x) (w:qeA x≤1048576):qjB x:=⟨qcV (h.1) (by simp only [qeA] at w;omega),qcV (h.2.1) (by simp only [qeA] at w;omega),qcV (h.2.2.1) (by simp only [qeA] at w;omega),qcV (h.2.2.2) (by simp only [qeA] at w;omega)⟩
def qff (a:(List qC)):Nat:=a.length+(a.map fun x=>qeA x).sum
theorem qnP {a:(List qC)} (h:(rngL qg0) a) (w:qff a≤1048576):(okL qjB) a :=
 ⟨by simp only [qff] at w;omega,fun x hx=>qoN (h.2 x hx) (by have:=qcA (wt:=fun x:qC=>qeA x) hx;simp only [qff] at w;omega)⟩
def qi2 (x:qk):Prop:=qhw x.As∧qhX x.Ab∧(rngL qg0) x.Ac
def qfd (x:qk):Nat:=qex x.As+qd5 x.Ab+qff x.Ac
structure qix (x:qk):Prop where
 As:qeS x.As
 Ab:qgO x.Ab
 Ac:(okL qjB) x.Ac
theorem qoe {x:qk} (h:qi2 x) (w:qfd x≤1048576):qix x:=⟨qmF (h.1) (by simp only [qfd] at w;omega),qnr (h.2.1) (by simp only [qfd] at w;omega),qnP (h.2.2) (by simp only [qfd] at w;omega)⟩
theorem qrK {a:qR} (_:qiP a≤1048576):Ev (fun n=>qgQ n a a) true:=by
 unfold qgQ
 exact Ev.ff qgA (Ev.ff qaZ (Ev.ff qaZ (Ev.ff qmC (.done))))
theorem qqG {a:(List qR)} (h:qgS a≤1048576):Ev (fun n=>qhs n a a) true:=by
 have hl:a.length≤1048576:=by simp only [qgS] at h;omega
 unfold qhs
 exact Ev.ff (by simp) (Ev.bind (b:=.nxt (a.length:Int)) (qe1 (eqf:=qgQ) (fun x hx=>qrK (by have:=qcA (wt:=fun x:qR=>qiP x) hx;simp only [qgS] at h;omega))
  (fun n=>by simp only [qeb,qj (je _),cond_false])
  (fun n j x hx=>by
   have hj:=(List.getElem?_eq_some_iff.1 hx).1
   simp only [qeb,qi hj,cond_true,qU hx,jd,wS j])) .done)
theorem qq1 {a:qn} (h:qey a≤1048576):Ev (fun n=>qf3 n a a) true:=by
 unfold qf3
 simp only [qey] at h
 exact Ev.ff qgA (Ev.ff qaZ (Ev.bind (qqG (a:=a.Ap) (by omega)) (Ev.ff rfl (Ev.bind (qrc (a:=a.Aj) (by omega)) (Ev.ff rfl (Ev.bind (qet (a:=a.Bg) (by omega)) (Ev.ff rfl (Ev.ff qaZ (Ev.ff qaZ (.done))))))))))
theorem qqk {a:(List qn)} (h:qe7 a≤1048576):Ev (fun n=>qgH n a a) true:=by
 have hl:a.length≤1048576:=by simp only [qe7] at h;omega
 unfold qgH
 exact Ev.ff (by simp) (Ev.bind (b:=.nxt (a.length:Int)) (qe1 (eqf:=qf3) (fun x hx=>qq1 (by have:=qcA (wt:=fun x:qn=>qey x) hx;simp only [qe7] at h;omega))
  (fun n=>by simp only [qdx,qj (je _),cond_false])
  (fun n j x hx=>by
   have hj:=(List.getElem?_eq_some_iff.1 hx).1
   simp only [qdx,qi hj,cond_true,qU hx,jd,wS j])) .done)
theorem qn4 {a:ql} (h:qex a≤1048576):Ev (fun n=>qfu n a a) true:=by
 unfold qfu
 simp only [qex] at h
 exact Ev.bind (qqk (a:=a.Ak) (by omega)) (Ev.ff rfl (.done))
theorem qnB {a:qe} (h:qbp a≤1048576):Ev (fun n=>qdL n a a) true:=by
 unfold qdL
 simp only [qbp] at h
 exact Ev.ff qgA (Ev.ff qaZ (Ev.bind (qet (a:=a.Ah) (by omega)) (Ev.ff rfl (.done))))
theorem qmv {a:(List qe)} (h:qbP a≤1048576):Ev (fun n=>qei n a a) true:=by
 have hl:a.length≤1048576:=by simp only [qbP] at h;omega
 unfold qei
 exact Ev.ff (by simp) (Ev.bind (b:=.nxt (a.length:Int)) (qe1 (eqf:=qdL) (fun x hx=>qnB (by have:=qcA (wt:=fun x:qe=>qbp x) hx;simp only [qbP] at h;omega))
  (fun n=>by simp only [qb5,qj (je _),cond_false])
  (fun n j x hx=>by
   have hj:=(List.getElem?_eq_some_iff.1 hx).1
   simp only [qb5,qi hj,cond_true,qU hx,jd,wS j])) .done)
theorem qok {a:(List ByteArray)} (h:qel a≤1048576):Ev (fun n=>qfg n a a) true:=by
 have hl:a.length≤1048576:=by simp only [qel] at h;omega
 unfold qfg
 exact Ev.ff (by simp) (Ev.bind (b:=.nxt (a.length:Int)) (qe1 (eqf:=fun _ x y=>some (!(x.toList != y.toList))) (fun x _=>Ev.now (by simp))
  (fun n=>by simp only [qcM,qj (je _),cond_false])
  (fun n j x hx=>by
   have hj:=(List.getElem?_eq_some_iff.1 hx).1
   simp only [qcM,qi hj,cond_true,qU hx,jd,Bool.not_not,wS j])) .done)
theorem qqJ {a:qO} (_:qg7 a≤1048576):Ev (fun n=>qf9 n a a) true:=by
 unfold qf9
 exact Ev.ff qgA (Ev.ff qaZ (Ev.ff qaZ (.done)))
theorem qpP {a:(List qO)} (h:qfm a≤1048576):Ev (fun n=>qgo n a a) true:=by
 have hl:a.length≤1048576:=by simp only [qfm] at h;omega
 unfold qgo
 exact Ev.ff (by simp) (Ev.bind (b:=.nxt (a.length:Int)) (qe1 (eqf:=qf9) (fun x hx=>qqJ (by have:=qcA (wt:=fun x:qO=>qg7 x) hx;simp only [qfm] at h;omega))
  (fun n=>by simp only [qdG,qj (je _),cond_false])
  (fun n j x hx=>by
   have hj:=(List.getElem?_eq_some_iff.1 hx).1
   simp only [qdG,qi hj,cond_true,qU hx,jd,wS j])) .done)
theorem qo7 {a:qb} (h:qd5 a≤1048576):Ev (fun n=>qfU n a a) true:=by
 unfold qfU
 simp only [qd5] at h
 exact Ev.bind (qmv (a:=a.Aa) (by omega)) (Ev.ff rfl (Ev.bind (qok (a:=a.Ah) (by omega)) (Ev.ff rfl (Ev.bind (qpP (a:=a.Af) (by omega)) (Ev.ff rfl (.done))))))
theorem qqH {a:qC} (h:qeA a≤1048576):Ev (fun n=>qf8 n a a) true:=by
 unfold qf8
 simp only [qeA] at h
 exact Ev.bind (qet (a:=a.Ai) (by omega)) (Ev.ff rfl (Ev.bind (qet (a:=a.Bn) (by omega)) (Ev.ff rfl (Ev.bind (qet (a:=a.Bk) (by omega)) (Ev.ff rfl (Ev.bind (qet (a:=a.Bc) (by omega)) (Ev.ff rfl (.done))))))))
theorem qpR {a:(List qC)} (h:qff a≤1048576):Ev (fun n=>qgJ n a a) true:=by
 have hl:a.length≤1048576:=by simp only [qff] at h;omega
 unfold qgJ
 exact Ev.ff (by simp) (Ev.bind (b:=.nxt (a.length:Int)) (qe1 (eqf:=qf8) (fun x hx=>qqH (by have:=qcA (wt:=fun x:qC=>qeA x) hx;simp only [qff] at h;omega))
  (fun n=>by simp only [qdv,qj (je _),cond_false])
  (fun n j x hx=>by
   have hj:=(List.getElem?_eq_some_iff.1 hx).1
   simp only [qdv,qi hj,cond_true,qU hx,jd,wS j])) .done)
theorem qpE {a:qk} (h:qfd a≤1048576):Ev (fun n=>qgz n a a) true:=by
 unfold qgz
 simp only [qfd] at h
 exact Ev.bind (qn4 (a:=a.As) (by omega)) (Ev.ff rfl (Ev.bind (qo7 (a:=a.Ab) (by omega)) (Ev.ff rfl (Ev.bind (qpR (a:=a.Ac) (by omega)) (Ev.ff rfl (.done))))))
theorem qer {a:(List Int)} {left:Int} (h:(rngL rngI) a) (h0:0≤left) (h1:left≤1048576):Sz (fun n=>qa1 n a left) (fun r=>r=left-(qb6 a:Int)) :=
 Sz.less h0 h1 (by omega) (by have:=h.1;omega) (fun _=>rfl)
theorem qpz {a:qp} {left:Int} (h:qeX a) (h0:0≤left) (h1:left≤1048576):Sz (fun n=>qe2 n a left) (fun r=>r=left-(qdk a:Int)):=by
 unfold qe2
 obtain ⟨h_0,h_1,h_2⟩:=h
 exact Sz.step (qer (a:=a.Bd) h_0 (by omega) (by omega)) fun r0 p0 q0=>Sz.step (qer (a:=a.Be) h_1 (by omega) (by omega)) fun r1 p1 q1=>Sz.step (qer (a:=a.Ay) h_2 (by omega) (by omega)) fun r2 p2 q2=>Sz.done p2 (by simp only [qdk];omega)
theorem qmh {a:(List qp)} {left:Int} (h:(rngL qeX) a) (h0:0≤left) (h1:left≤1048576):Sz (fun n=>qfK n a left) (fun r=>r=left-(qdK a:Int)) :=
 Sz.list (Lf:=qcn a) (wt:=fun x:qp=>qdk x) (el:=qe2) h0 h1 h.1 (fun x hx left p q=>qpz (h.2 x hx) p q)
  (fun acc n=>by simp only [qcn,qj (je _),cond_false])
  (fun acc n j x hx=>by
   have hj:=(List.getElem?_eq_some_iff.1 hx).1
   have hl:=h.1
   simp only [qcn,qi hj,cond_true,qU hx,jd,wS j])
  (fun _=>rfl)
theorem qr2 {a:qL} {left:Int} (h:qh5 a) (h0:0≤left) (h1:left≤1048576):Sz (fun n=>qg6 n a left) (fun r=>r=left-(qhp a:Int)):=by
 unfold qg6
 obtain ⟨h_0,h_1,h_2,h_3,h_4,h_5⟩:=h
 exact Sz.step (qmh (a:=a.Bh) h_4 (by omega) (by omega)) fun r0 p0 q0=>Sz.step (qmh (a:=a.Az) h_5 (by omega) (by omega)) fun r1 p1 q1=>Sz.done p1 (by simp only [qhp];omega)
theorem qrf {a:(List qL)} {left:Int} (h:(rngL qh5) a) (h0:0≤left) (h1:left≤1048576):Sz (fun n=>qig n a left) (fun r=>r=left-(qg3 a:Int)) :=
 Sz.list (Lf:=qc3 a) (wt:=fun x:qL=>qhp x) (el:=qg6) h0 h1 h.1 (fun x hx left p q=>qr2 (h.2 x hx) p q)
  (fun acc n=>by simp only [qc3,qj (je _),cond_false])
  (fun acc n j x hx=>by
   have hj:=(List.getElem?_eq_some_iff.1 hx).1
   have hl:=h.1
   simp only [qc3,qi hj,cond_true,qU hx,jd,wS j])
  (fun _=>rfl)
theorem qrR {a:qR} {left:Int} (h:qhW a) (h0:0≤left) (h1:left≤1048576):Sz (fun n=>qgX n a left) (fun r=>r=left-(qiP a:Int)):=by
 unfold qgX
 obtain ⟨h_0,h_1,h_2,h_3⟩:=h
 exact Sz.strStep h_0 (by omega) (by omega) fun p0 q0=>Sz.done p0 (by simp only [qiP];omega)
theorem qqZ {a:(List qR)} {left:Int} (h:(rngL qhW) a) (h0:0≤left) (h1:left≤1048576):Sz (fun n=>qir n a left) (fun r=>r=left-(qgS a:Int)) :=
 Sz.list (Lf:=qc8 a) (wt:=fun x:qR=>qiP x) (el:=qgX) h0 h1 h.1 (fun x hx left p q=>qrR (h.2 x hx) p q)
  (fun acc n=>by simp only [qc8,qj (je _),cond_false])
  (fun acc n j x hx=>by
   have hj:=(List.getElem?_eq_some_iff.1 hx).1
   have hl:=h.1
   simp only [qc8,qi hj,cond_true,qU hx,jd,wS j])
  (fun _=>rfl)
theorem qrp {a:qn} {left:Int} (h:qgW a) (h0:0≤left) (h1:left≤1048576):Sz (fun n=>qfY n a left) (fun r=>r=left-(qey a:Int)):=by
 unfold qfY
 obtain ⟨h_0,h_1,h_2,h_3,h_4,h_5,h_6⟩:=h
 exact Sz.strStep h_0 (by omega) (by omega) fun p0 q0=>Sz.step (qqZ (a:=a.Ap) h_2 (by omega) (by omega)) fun r1 p1 q1=>Sz.step (qrf (a:=a.Aj) h_3 (by omega) (by omega)) fun r2 p2 q2=>Sz.step (qer (a:=a.Bg) h_4 (by omega) (by omega)) fun r3 p3 q3=>Sz.done p3 (by simp only [qey];omega)
theorem qpL {a:(List qn)} {left:Int} (h:(rngL qgW) a) (h0:0≤left) (h1:left≤1048576):Sz (fun n=>qh0 n a left) (fun r=>r=left-(qe7 a:Int)) :=
 Sz.list (Lf:=qcG a) (wt:=fun x:qn=>qey x) (el:=qfY) h0 h1 h.1 (fun x hx left p q=>qrp (h.2 x hx) p q)
  (fun acc n=>by simp only [qcG,qj (je _),cond_false])
  (fun acc n j x hx=>by
   have hj:=(List.getElem?_eq_some_iff.1 hx).1
   have hl:=h.1
   simp only [qcG,qi hj,cond_true,qU hx,jd,wS j])
  (fun _=>rfl)
theorem qoq {a:ql} {left:Int} (h:qhw a) (h0:0≤left) (h1:left≤1048576):Sz (fun n=>qfa n a left) (fun r=>r=left-(qex a:Int)):=by
 unfold qfa
 have h_0:=h
 exact Sz.step (qpL (a:=a.Ak) h_0 (by omega) (by omega)) fun r0 p0 q0=>Sz.done p0 (by simp only [qex];omega)
theorem qnA {a:qe} {left:Int} (h:qds a) (h0:0≤left) (h1:left≤1048576):Sz (fun n=>qdA n a left) (fun r=>r=left-(qbp a:Int)):=by
 unfold qdA
 obtain ⟨h_0,h_1,h_2⟩:=h
 exact Sz.strStep h_0 (by omega) (by omega) fun p0 q0=>Sz.step (qer (a:=a.Ah) h_2 (by omega) (by omega)) fun r1 p1 q1=>Sz.done p1 (by simp only [qbp];omega)
theorem qmM {a:(List qe)} {left:Int} (h:(rngL qds) a) (h0:0≤left) (h1:left≤1048576):Sz (fun n=>qfH n a left) (fun r=>r=left-(qbP a:Int)) :=
 Sz.list (Lf:=qbq a) (wt:=fun x:qe=>qbp x) (el:=qdA) h0 h1 h.1 (fun x hx left p q=>qnA (h.2 x hx) p q)
  (fun acc n=>by simp only [qbq,qj (je _),cond_false])
  (fun acc n j x hx=>by
   have hj:=(List.getElem?_eq_some_iff.1 hx).1
   have hl:=h.1
   simp only [qbq,qi hj,cond_true,qU hx,jd,wS j])
  (fun _=>rfl)
theorem qoo {a:(List ByteArray)} {left:Int} (h:(rngL rngS) a) (h0:0≤left) (h1:left≤1048576):Sz (fun n=>qg8 n a left) (fun r=>r=left-(qel a:Int)) :=
 Sz.list (Lf:=qbS a) (wt:=fun x:ByteArray=>x.size) (el:=fun _ (x:ByteArray) acc=>some (W64 (acc-(x.size:Int)))) h0 h1 h.1 (fun x hx left p q=>Sz.str (h.2 x hx) p q)
  (fun acc n=>by simp only [qbS,qj (je _),cond_false])
  (fun acc n j x hx=>by
   have hj:=(List.getElem?_eq_some_iff.1 hx).1
   have hl:=h.1
   simp only [qbS,qi hj,cond_true,qU hx,jd,wS j])
  (fun _=>rfl)
theorem qqL {a:qO} {left:Int} (h:qha a) (h0:0≤left) (h1:left≤1048576):Sz (fun n=>qga n a left) (fun r=>r=left-(qg7 a:Int)):=by
 unfold qga
 obtain ⟨h_0,h_1,h_2⟩:=h
 exact Sz.strStep h_0 (by omega) (by omega) fun p0 q0=>Sz.done p0 (by simp only [qg7];omega)
theorem qqd {a:(List qO)} {left:Int} (h:(rngL qha) a) (h0:0≤left) (h1:left≤1048576):Sz (fun n=>qhQ n a left) (fun r=>r=left-(qfm a:Int)) :=
 Sz.list (Lf:=qcJ a) (wt:=fun x:qO=>qg7 x) (el:=qga) h0 h1 h.1 (fun x hx left p q=>qqL (h.2 x hx) p q)
  (fun acc n=>by simp only [qcJ,qj (je _),cond_false])
  (fun acc n j x hx=>by
   have hj:=(List.getElem?_eq_some_iff.1 hx).1
   have hl:=h.1
   simp only [qcJ,qi hj,cond_true,qU hx,jd,wS j])
  (fun _=>rfl)
theorem qpm {a:qb} {left:Int} (h:qhX a) (h0:0≤left) (h1:left≤1048576):Sz (fun n=>qfP n a left) (fun r=>r=left-(qd5 a:Int)):=by
 unfold qfP
 obtain ⟨h_0,h_1,h_2⟩:=h
 exact Sz.step (qmM (a:=a.Aa) h_0 (by omega) (by omega)) fun r0 p0 q0=>Sz.step (qoo (a:=a.Ah) h_1 (by omega) (by omega)) fun r1 p1 q1=>Sz.step (qqd (a:=a.Af) h_2 (by omega) (by omega)) fun r2 p2 q2=>Sz.done p2 (by simp only [qd5];omega)
theorem qq8 {a:qC} {left:Int} (h:qg0 a) (h0:0≤left) (h1:left≤1048576):Sz (fun n=>qf2 n a left) (fun r=>r=left-(qeA a:Int)):=by
 unfold qf2
 obtain ⟨h_0,h_1,h_2,h_3⟩:=h
 exact Sz.step (qer (a:=a.Ai) h_0 (by omega) (by omega)) fun r0 p0 q0=>Sz.step (qer (a:=a.Bn) h_1 (by omega) (by omega)) fun r1 p1 q1=>Sz.step (qer (a:=a.Bk) h_2 (by omega) (by omega)) fun r2 p2 q2=>Sz.step (qer (a:=a.Bc) h_3 (by omega) (by omega)) fun r3 p3 q3=>Sz.done p3 (by simp only [qeA];omega)
theorem qqz {a:(List qC)} {left:Int} (h:(rngL qg0) a) (h0:0≤left) (h1:left≤1048576):Sz (fun n=>qhY n a left) (fun r=>r=left-(qff a:Int)) :=
 Sz.list (Lf:=qcH a) (wt:=fun x:qC=>qeA x) (el:=qf2) h0 h1 h.1 (fun x hx left p q=>qq8 (h.2 x hx) p q)
  (fun acc n=>by simp only [qcH,qj (je _),cond_false])
  (fun acc n j x hx=>by
   have hj:=(List.getElem?_eq_some_iff.1 hx).1
   have hl:=h.1
   simp only [qcH,qi hj,cond_true,qU hx,jd,wS j])
  (fun _=>rfl)
theorem qpW {a:qk} {left:Int} (h:qi2 a) (h0:0≤left) (h1:left≤1048576):Sz (fun n=>qgq n a left) (fun r=>r=left-(qfd a:Int)):=by
 unfold qgq
 obtain ⟨h_0,h_1,h_2⟩:=h
 exact Sz.step (qoq (a:=a.As) h_0 (by omega) (by omega)) fun r0 p0 q0=>Sz.step (qpm (a:=a.Ab) h_1 (by omega) (by omega)) fun r1 p1 q1=>Sz.step (qqz (a:=a.Ac) h_2 (by omega) (by omega)) fun r2 p2 q2=>Sz.done p2 (by simp only [qfd];omega)
theorem qen {a:(List Int)} (h:qb6 a≤1048576):Ev (fun n=>qaR n a) a:=by
 have hl:a.length≤1048576:=by simp only [qb6] at h;omega
 unfold qaR
 exact Ev.bindN (qeJ (by omega)) (Ev.bind (b:=(a,(a.length:Int))) (qe0 (cp:=fun _ x=>some x) (fun _ _=>.done)
  (fun acc n=>by simp only [qdd,qj (je _),cond_false])
  (fun acc n j x y hx hy=>by
   have hj:=(List.getElem?_eq_some_iff.1 hx).1
   simp only [qdd,qi hj,cond_true,qU hx,qU hy,jd,wS j])) .done)
theorem qpY {a:qp} (h:qdk a≤1048576):Ev (fun n=>qe6 n a) a:=by
 unfold qe6
 simp only [qdk] at h
 exact Ev.bind (qen (a:=a.Bd) (by omega)) (Ev.bind (qen (a:=a.Be) (by omega)) (Ev.bind (qen (a:=a.Ay) (by omega)) (.done)))
theorem qmj {a:(List qp)} (h:qdK a≤1048576):Ev (fun n=>qeC n a) a:=by
 have hl:a.length≤1048576:=by simp only [qdK] at h;omega
 unfold qeC
 exact Ev.bindN (qeJ (by omega)) (Ev.bind (b:=(a,(a.length:Int))) (qe0 (cp:=qe6) (fun x hx=>qpY (by have:=qcA (wt:=fun x:qp=>qdk x) hx;simp only [qdK] at h;omega))
  (fun acc n=>by simp only [qdb,qj (je _),cond_false])
  (fun acc n j x y hx hy=>by
   have hj:=(List.getElem?_eq_some_iff.1 hx).1
   simp only [qdb,qi hj,cond_true,qU hx,qU hy,jd,wS j])) .done)
theorem qrS {a:qL} (h:qhp a≤1048576):Ev (fun n=>qgV n a) a:=by
 unfold qgV
 simp only [qhp] at h
 exact Ev.bind (qmj (a:=a.Bh) (by omega)) (Ev.bind (qmj (a:=a.Az) (by omega)) (.done))
theorem qqY {a:(List qL)} (h:qg3 a≤1048576):Ev (fun n=>qho n a) a:=by
 have hl:a.length≤1048576:=by simp only [qg3] at h;omega
 unfold qho
 exact Ev.bindN (qeJ (by omega)) (Ev.bind (b:=(a,(a.length:Int))) (qe0 (cp:=qgV) (fun x hx=>qrS (by have:=qcA (wt:=fun x:qL=>qhp x) hx;simp only [qg3] at h;omega))
  (fun acc n=>by simp only [qec,qj (je _),cond_false])
  (fun acc n j x y hx hy=>by
   have hj:=(List.getElem?_eq_some_iff.1 hx).1
   simp only [qec,qi hj,cond_true,qU hx,qU hy,jd,wS j])) .done)
theorem qrO {a:qR} (_:qiP a≤1048576):Ev (fun n=>qg1 n a) a:=by
 unfold qg1
 exact .done
theorem qq6 {a:(List qR)} (h:qgS a≤1048576):Ev (fun n=>qhl n a) a:=by
 have hl:a.length≤1048576:=by simp only [qgS] at h;omega
 unfold qhl
 exact Ev.bindN (qeJ (by omega)) (Ev.bind (b:=(a,(a.length:Int))) (qe0 (cp:=qg1) (fun x hx=>qrO (by have:=qcA (wt:=fun x:qR=>qiP x) hx;simp only [qgS] at h;omega))
  (fun acc n=>by simp only [qd7,qj (je _),cond_false])
  (fun acc n j x y hx hy=>by
   have hj:=(List.getElem?_eq_some_iff.1 hx).1
   simp only [qd7,qi hj,cond_true,qU hx,qU hy,jd,wS j])) .done)
theorem qqQ {a:qn} (h:qey a≤1048576):Ev (fun n=>qgb n a) a:=by
 unfold qgb
 simp only [qey] at h
 exact Ev.bind (qq6 (a:=a.Ap) (by omega)) (Ev.bind (qqY (a:=a.Aj) (by omega)) (Ev.bind (qen (a:=a.Bg) (by omega)) (.done)))
theorem qpH {a:(List qn)} (h:qe7 a≤1048576):Ev (fun n=>qgx n a) a:=by
 have hl:a.length≤1048576:=by simp only [qe7] at h;omega
 unfold qgx
 exact Ev.bindN (qeJ (by omega)) (Ev.bind (b:=(a,(a.length:Int))) (qe0 (cp:=qgb) (fun x hx=>qqQ (by have:=qcA (wt:=fun x:qn=>qey x) hx;simp only [qe7] at h;omega))
  (fun acc n=>by simp only [qdH,qj (je _),cond_false])
  (fun acc n j x y hx hy=>by
   have hj:=(List.getElem?_eq_some_iff.1 hx).1
   simp only [qdH,qi hj,cond_true,qU hx,qU hy,jd,wS j])) .done)
theorem qn0 {a:ql} (h:qex a≤1048576):Ev (fun n=>qeY n a) a:=by
 unfold qeY
 simp only [qex] at h
 exact Ev.bind (qpH (a:=a.Ak) (by omega)) (.done)
theorem qnh {a:qe} (h:qbp a≤1048576):Ev (fun n=>qdu n a) a:=by
 unfold qdu
 simp only [qbp] at h
 exact Ev.bind (qen (a:=a.Ah) (by omega)) (.done)
theorem qmR {a:(List qe)} (h:qbP a≤1048576):Ev (fun n=>qeo n a) a:=by
 have hl:a.length≤1048576:=by simp only [qbP] at h;omega
 unfold qeo
 exact Ev.bindN (qeJ (by omega)) (Ev.bind (b:=(a,(a.length:Int))) (qe0 (cp:=qdu) (fun x hx=>qnh (by have:=qcA (wt:=fun x:qe=>qbp x) hx;simp only [qbP] at h;omega))
  (fun acc n=>by simp only [qb7,qj (je _),cond_false])
  (fun acc n j x y hx hy=>by
   have hj:=(List.getElem?_eq_some_iff.1 hx).1
   simp only [qb7,qi hj,cond_true,qU hx,qU hy,jd,wS j])) .done)
theorem qnQ {a:(List ByteArray)} (h:qel a≤1048576):Ev (fun n=>qe4 n a) a:=by
 have hl:a.length≤1048576:=by simp only [qel] at h;omega
 unfold qe4
 exact Ev.bindN (qeJ (by omega)) (Ev.bind (b:=(a,(a.length:Int))) (qe0 (cp:=fun _ x=>some x) (fun _ _=>.done)
  (fun acc n=>by simp only [qcS,qj (je _),cond_false])
  (fun acc n j x y hx hy=>by
   have hj:=(List.getElem?_eq_some_iff.1 hx).1
   simp only [qcS,qi hj,cond_true,qU hx,qU hy,jd,wS j])) .done)
theorem qqT {a:qO} (_:qg7 a≤1048576):Ev (fun n=>qgc n a) a:=by
 unfold qgc
 exact .done
theorem qqa {a:(List qO)} (h:qfm a≤1048576):Ev (fun n=>qgm n a) a:=by
 have hl:a.length≤1048576:=by simp only [qfm] at h;omega
 unfold qgm
 exact Ev.bindN (qeJ (by omega)) (Ev.bind (b:=(a,(a.length:Int))) (qe0 (cp:=qgc) (fun x hx=>qqT (by have:=qcA (wt:=fun x:qO=>qg7 x) hx;simp only [qfm] at h;omega))
  (fun acc n=>by simp only [qdz,qj (je _),cond_false])
  (fun acc n j x y hx hy=>by
   have hj:=(List.getElem?_eq_some_iff.1 hx).1
   simp only [qdz,qi hj,cond_true,qU hx,qU hy,jd,wS j])) .done)
theorem qpj {a:qb} (h:qd5 a≤1048576):Ev (fun n=>qfS n a) a:=by
 unfold qfS
 simp only [qd5] at h
 exact Ev.bind (qmR (a:=a.Aa) (by omega)) (Ev.bind (qnQ (a:=a.Ah) (by omega)) (Ev.bind (qqa (a:=a.Af) (by omega)) (.done)))
theorem qro {a:qC} (h:qeA a≤1048576):Ev (fun n=>qf7 n a) a:=by
 unfold qf7
 simp only [qeA] at h
 exact Ev.bind (qen (a:=a.Ai) (by omega)) (Ev.bind (qen (a:=a.Bn) (by omega)) (Ev.bind (qen (a:=a.Bk) (by omega)) (Ev.bind (qen (a:=a.Bc) (by omega)) (.done))))
theorem qpZ {a:(List qC)} (h:qff a≤1048576):Ev (fun n=>qgu n a) a:=by
 have hl:a.length≤1048576:=by simp only [qff] at h;omega
 unfold qgu
 exact Ev.bindN (qeJ (by omega)) (Ev.bind (b:=(a,(a.length:Int))) (qe0 (cp:=qf7) (fun x hx=>qro (by have:=qcA (wt:=fun x:qC=>qeA x) hx;simp only [qff] at h;omega))
  (fun acc n=>by simp only [qdC,qj (je _),cond_false])
  (fun acc n j x y hx hy=>by
   have hj:=(List.getElem?_eq_some_iff.1 hx).1
   simp only [qdC,qi hj,cond_true,qU hx,qU hy,jd,wS j])) .done)
theorem qlK {a:qk} (h:qfd a≤1048576):Ev (fun n=>qes n a) a:=by
 unfold qes
 simp only [qfd] at h
 exact Ev.bind (qn0 (a:=a.As) (by omega)) (Ev.bind (qpj (a:=a.Ab) (by omega)) (Ev.bind (qpZ (a:=a.Ac) (by omega)) (.done)))
end Go.Fw


namespace Go.Fw
open Go
set_option maxRecDepth 100000
theorem qdB {n:Nat} {x lo hi:Int}:qX n x lo hi=some (inI x lo hi):=by
 simp only [qX,qiN,qjD];rfl
theorem qcj {n:Nat} {x lo hi:Int}:qaj n x lo hi=some (inI x lo hi):=by
 simp only [qaj,qiN,qjD];rfl
def bt (s:ByteArray) (j:Nat):Nat:=(s.data.toList.getD j 0).toNat
theorem qpB {s:ByteArray} {j:Nat} (h:j<s.size):atS s (j:Int)=some (bt s j:Int):=by
 have h':j<s.data.size:=h
 have hl:j<s.data.toList.length:=by simpa using h'
 unfold atS
 rw [if_pos (by omega),jz]
 have:s[j]?=some (s.data.toList.getD j 0):=by
  rw [getElem?_pos s j h,jF,jh hl]
  rfl
 rw [this]
 rfl
def letB (b:Nat):Bool:=decide (97≤b)&&decide (b≤122)
def digB (b:Nat):Bool:=decide (48≤b)&&decide (b≤57)
def chB (s:ByteArray) (j:Nat):Bool:=letB (bt s j) || digB (bt s j)&&decide (0<j)
def nameB (s:ByteArray):Bool:=(decide (1≤s.size)&&decide (s.size≤8))&&allN (chB s) s.size
theorem qjh {s:ByteArray} (h:okS s):Ev (fun n=>qev n s) (nameB s):=by
 unfold okS at h
 have hL:Ev (fun n=>qb2 s n 0) (bif allN (chB s) s.size then .nxt (s.size:Int) else .ret false):=by
  refine qcY ?_ (fun j hj X hX=>?_)
  ·exact Ev.succ (by simp only [qb2,qj (je _),cond_false];exact .done)
  ·refine Ev.succ ?_
   simp only [qb2,qi hj,cond_true,qpB hj,jd,qiN,qjD,wS j]
   have e1:(decide ((bt s j:Int) ≥ 97)&&decide ((bt s j:Int)≤122))=letB (bt s j):=by unfold letB;rw [ji];simp;omega
   have e2:(decide ((bt s j:Int) ≥ 48)&&decide ((bt s j:Int)≤57))=digB (bt s j):=by unfold digB;rw [ji];simp;omega
   have e3:decide ((j:Int) > 0)=decide (0<j):=by rw [ji];simp
   rw [e1,e2,e3]
   unfold chB
   cases letB (bt s j)<;>cases digB (bt s j)<;>cases decide (0<j)<;>first|exact hX|exact .done
 unfold qev
 refine Ev.cast (r:=bif allN (chB s) s.size then (decide (1≤s.size)&&decide (s.size≤8)) else false) (Ev.bindB hL (fun _=>?_) (fun _=>.done)) ?_
 ·simp only [qiN,qjD]
  exact Ev.now (by congr 1;rw [ji];simp;omega)
 ·unfold nameB
  cases allN (chB s) s.size<;>simp
def cutset:List UInt8:=[97,98,99,100,101,102,103,104,105,106,107,108,109,110,111,112,113,114,115,116,117,118,119,120,121,122,48,49,50,51,52,53,54,55,56,57]
theorem qlq (b:UInt8):cutset.contains b=(letB b.toNat || digB b.toNat):=by
 have h0:(List.range 256).all (fun m=>cutset.contains (UInt8.ofNat m)==(letB (UInt8.ofNat m).toNat || digB (UInt8.ofNat m).toNat))=true:=by kernel_rfl
 have h:=List.all_eq_true.1 h0 b.toNat (List.mem_range.2 b.toNat_lt)
 rw [beq_iff_eq] at h
 simpa using h
def letters:List UInt8:=[97,98,99,100,101,102,103,104,105,106,107,108,109,110,111,112,113,114,115,116,117,118,119,120,121,122]
theorem qod (m:Nat) (hm:m<256):decide ((Lib.indexByte letters m.toUInt8) ≥ 0)=letB m:=by
 have h0:(List.range 256).all (fun m=>decide ((Lib.indexByte letters m.toUInt8) ≥ 0)==letB m)=true:=by kernel_rfl
 have h:=List.all_eq_true.1 h0 m (List.mem_range.2 hm)
 rwa [beq_iff_eq] at h
theorem qlZ {α:Type} {p:α→Bool} {l:List α}:l.dropWhile p=[]↔∀ x,x ∈ l→p x=true:=by
 induction l with
 | nil=>simp
 | cons y l ih =>
  rw [List.dropWhile_cons]
  by_cases h:p y=true
  ·rw [if_pos h,ih];simp [h]
  ·rw [if_neg h];simp [h]
theorem qlW {α:Type} {p:α→Bool} {l:List α} (h:∀ x,x ∈ l.dropWhile p→p x=true):∀ x,x ∈ l→p x=true:=by
 induction l with
 | nil=>simp
 | cons y l ih =>
  rw [List.dropWhile_cons] at h
  by_cases hy:p y=true
  ·rw [if_pos hy] at h
   intro x hx
   rcases List.mem_cons.1 hx with rfl|hx
   ·exact hy
   ·exact ih h x hx
  ·rw [if_neg hy] at h
   exact h
theorem qpT {l cs:List UInt8}:Lib.trimS l cs=[]↔∀ x,x ∈ l→cs.contains x=true:=by
 unfold Lib.trimS Lib.trimRightS Lib.trimLeftS
 rw [qlZ]
 constructor
 ·intro h x hx
  exact qlW (p:=(cs.contains ·)) (l:=l.reverse) (fun y hy=>h y (List.mem_reverse.2 hy)) x (List.mem_reverse.2 hx)
 ·intro h x hx
  exact h x (List.mem_reverse.1 ((List.dropWhile_suffix _).subset (List.mem_reverse.1 hx)))
theorem qeH {a b:ByteArray}:(a.toList==b.toList)=decide (a=b):=by
 rw [ji,beq_iff_eq,decide_eq_true_iff]
 constructor
 ·intro h
  exact ByteArray.ext (by have:=congrArg List.toArray h;simpa [ByteArray.toList_eq] using this)
 ·rintro rfl;rfl
end Go.Fw


namespace Go.Fw
open Go
set_option maxRecDepth 100000
theorem qrz {s:ByteArray} {j:Nat} (h:j<s.data.toList.length):bt s j=(s.data.toList[j]).toNat:=by
 unfold bt;rw [jF,jh h];rfl
theorem qr7 {s:ByteArray} {j:Nat}:bt s j<256:=UInt8.toNat_lt _
theorem qmt {n:Nat} {s:ByteArray} (h:okS s):qge n s=some (nameB s):=by
 unfold okS at h
 have hl:s.data.toList.length=s.size:=by simp
 simp only [qge,qcj,jd]
 cases hI:inI (s.size:Int) 1 8 with
 | false =>
  have hs:(decide (1≤s.size)&&decide (s.size≤8))=false:=by rw [qoR] at hI;rw [Bool.and_eq_false_iff,decide_eq_false_iff_not,decide_eq_false_iff_not];omega
  simp [nameB,hs]
 | true =>
  have hs:1≤s.size∧s.size≤8:=by rw [qby] at hI;omega
  have hT:qfk n s (⟨#[97,98,99,100,101,102,103,104,105,106,107,108,109,110,111,112,113,114,115,116,117,118,119,120,121,122,48,49,50,51,52,53,54,55,56,57]⟩:ByteArray)=some ⟨(Lib.trimS s.data.toList cutset).toArray⟩:=by
   unfold qfk
   rw [if_pos ⟨by omega,by decide,by decide⟩]
   rfl
  rw [hT]
  simp only [cond_true,jd]
  have hE:(((⟨(Lib.trimS s.data.toList cutset).toArray⟩:ByteArray).toList==(⟨#[]⟩:ByteArray).toList))=allN (fun j=>letB (bt s j) || digB (bt s j)) s.size:=by
   rw [qeH,ji,decide_eq_true_iff,qag]
   have:((⟨(Lib.trimS s.data.toList cutset).toArray⟩:ByteArray)=⟨#[]⟩)↔Lib.trimS s.data.toList cutset=[]:=by
    constructor
    ·intro he
     have:=congrArg (fun x:ByteArray=>x.data.toList) he
     simpa using this
    ·intro he;rw [he]
   rw [this,qpT]
   constructor
   ·intro hx j hj
    have hj':j<s.data.toList.length:=by omega
    have:=hx _ (jt hj')
    rw [qlq,←qrz hj'] at this
    exact this
   ·intro hx x hm
    obtain ⟨j,hj,rfl⟩:=jH hm
    have:=hx j (by omega)
    rw [qlq,←qrz hj]
    exact this
  rw [hE]
  have h0:atS s 0=some (bt s 0:Int):=qpB (j:=0) (by omega)
  have hI2:decide (Lib.indexByte letters (bt s 0:Int).toNat.toUInt8 ≥ 0)=letB (bt s 0):=by
   rw [jz];exact qod _ qr7
  have hF:∀ b:Bool,(bif b then (atS s 0).bind fun y1=>(qdX n (⟨#[97,98,99,100,101,102,103,104,105,106,107,108,109,110,111,112,113,114,115,116,117,118,119,120,121,122]⟩:ByteArray) (⟨y1⟩:IntK .u8)).bind fun r3=>some (decide (r3 ≥ 0)) else some false)=some (b&&letB (bt s 0)):=by
   intro b
   cases b with
   | false=>rfl
   | true =>
    rw [h0]
    simp only [cond_true,jd,qdX,jC]
    exact congrArg some hI2
  rw [hF]
  congr 1
  have hs':(decide (1≤s.size)&&decide (s.size≤8))=true:=by simp [hs]
  unfold nameB
  rw [hs',jC,ji,jf,qag,qag]
  simp only [chB,Bool.or_eq_true,jf,decide_eq_true_eq]
  constructor
  ·rintro ⟨h1,h2⟩ j hj
   rcases Nat.eq_zero_or_pos j with rfl|hp
   ·exact .inl h2
   ·exact (h1 j hj).imp id (fun h=>⟨h,hp⟩)
  ·intro h1
   refine ⟨fun j hj=>(h1 j hj).imp id (fun h=>h.1),?_⟩
   rcases h1 0 (by omega) with h2|h2
   ·exact h2
   ·omega
def strAt (xs:List ByteArray) (j:Nat):ByteArray:=xs.getD j ByteArray.empty
theorem qjI {xs:List ByteArray} {j:Nat} (h:j<xs.length):strAt xs j=xs[j]:=by simp [strAt,h]
theorem qk2 {xs:List ByteArray} {j:Nat} (h:j<xs.length):idx xs (j:Int)=some (strAt xs j):=by rw [qgk h,qjI h]
def neB (xs:List ByteArray) (j i:Nat):Bool:=!decide (strAt xs i=strAt xs j)
def namesB (xs:List ByteArray):Bool:=allN (fun j=>nameB (strAt xs j)&&allN (neB xs j) j) xs.length
theorem qim {xs:List ByteArray} (h:okL okS xs):Ev (fun n=>qdO n xs) (namesB xs):=by
 have hl:=h.len
 have hL2:∀ j,j<xs.length→Ev (fun n=>qco xs (j:Int) n 0) (bif allN (neB xs j) j then .nxt (j:Int) else .ret false):=by
  intro j hj
  refine qcY ?_ (fun i hi X hX=>Ev.succ ?_)
  ·exact Ev.succ (by simp only [qco,qj (je _),cond_false];exact .done)
  ·simp only [qco,qi hi,cond_true,qk2 (show i<xs.length by omega),qk2 hj,jd,qeH,wS i]
   unfold neB
   cases decide (strAt xs i=strAt xs j)
   ·exact hX
   ·exact .done
 have hL1:Ev (fun n=>qcq xs n 0) (bif namesB xs then .nxt (xs.length:Int) else .ret false):=by
  refine qcY ?_ (fun j hj X hX=>Ev.succ ?_)
  ·exact Ev.succ (by simp only [qcq,qj (je _),cond_false];exact .done)
  ·simp only [qcq,qi hj,cond_true,qk2 hj,jd,wS j]
   refine Ev.bind (qjh (by rw [qjI hj];exact h.at hj)) ?_
   cases nameB (strAt xs j)
   ·exact .done
   ·refine Ev.ff rfl (Ev.bind (hL2 j hj) ?_)
    cases allN (neB xs j) j
    ·exact .done
    ·exact hX
 unfold qdO
 refine Ev.bind hL1 ?_
 cases namesB xs<;>exact .done
theorem qnn {xs:List ByteArray} {v:ByteArray} (hl:xs.length≤1048576):Ev (fun n=>qc0 n xs v) (ixL (fun x=>decide (v=x)) xs) :=
 qeD (fin:=(xs.length:Int)) (Lf:=qaV xs v) (pf:=fun _ x=>some (decide (v=x))) (fun _ _=>.done)
  (fun n=>by simp only [qaV,qj (je _),cond_false])
  (fun n j x hx=>by
   have hj:=(List.getElem?_eq_some_iff.1 hx).1
   simp only [qaV,qi hj,cond_true,qU hx,jd,qeH,wS j])
  (fun n=>by unfold qc0;congr 1;funext o;cases o<;>rfl)
theorem qlv {xs:List ByteArray} {v:ByteArray} (hl:xs.length≤1048576):Ev (fun n=>qcc n xs v) (xs.any fun x=>decide (v=x)):=by
 unfold qcc
 exact Ev.bind (qnn hl) (Ev.now (by rw [qjl]))
theorem qgg {xs:List ByteArray} (h:okL okS xs):Ev (fun n=>qce n xs) (namesB xs):=by
 have hl:=h.len
 have hL1:Ev (fun n=>qcm xs n 0) (bif namesB xs then .nxt (xs.length:Int) else .ret false):=by
  refine qcY ?_ (fun j hj X hX=>Ev.succ ?_)
  ·exact Ev.succ (by simp only [qcm,qj (je _),cond_false];exact .done)
  ·have hs:subS xs 0 (j:Int)=some (xs.take j):=by
    unfold subS
    rw [if_pos ⟨by omega,by omega,by omega⟩]
    simp
   simp only [qcm,qi hj,cond_true,qk2 hj,jd,hs,qmt (show okS (strAt xs j) by rw [qjI hj];exact h.at hj),wS j]
   cases nameB (strAt xs j)
   ·exact .done
   ·refine Ev.ff rfl (Ev.bind (qlv (by simp;omega)) ?_)
    have:((xs.take j).any fun x=>decide (strAt xs j=x)) = !allN (neB xs j) j:=by
     rw [qm1 (d:=ByteArray.empty)]
     congr 1
     rw [List.length_take,Nat.min_eq_left (by omega)]
     refine qeQ (fun i hi=>?_)
     unfold neB strAt
     congr 1
     have:(xs.take j).getD i ByteArray.empty=xs.getD i ByteArray.empty:=by simp [jF,hi]
     rw [this]
     exact decide_eq_decide.2 eq_comm
    rw [this]
    cases allN (neB xs j) j
    ·exact .done
    ·exact hX
 unfold qce
 refine Ev.bind hL1 ?_
 cases namesB xs<;>exact .done
end Go.Fw


namespace Go.Fw
open Go
set_option maxRecDepth 100000
theorem qlR {n:Nat} {x lo hi:Int}:qeq n x lo hi=some (!inI x lo hi):=by simp only [qeq,qcj,jd]
theorem qeh {xs:List Int} {lo hi:Int} (hl:xs.length≤1048576):Ev (fun n=>qbm n xs lo hi) (xs.all fun x=>inI x lo hi):=by
 have h1:Ev (fun n=>qad n xs lo hi) (ixL (fun x=>!inI x lo hi) xs) :=
  qeD (fin:=(xs.length:Int)) (Lf:=qF xs lo hi) (pf:=fun _ x=>some (!inI x lo hi)) (fun _ _=>.done)
   (fun n=>by simp only [qF,qj (je _),cond_false])
   (fun n j x hx=>by
    have hj:=(List.getElem?_eq_some_iff.1 hx).1
    simp only [qF,qi hj,cond_true,qU hx,jd,qlR,wS j])
   (fun n=>by unfold qad;congr 1;funext o;cases o<;>rfl)
 unfold qbm qaE
 refine Ev.bind (Ev.bind h1 (Ev.now rfl)) (Ev.now ?_)
 rw [qjl,qkZ]
def stepB (xs:List Int) (j:Nat):Bool:=decide (j=0) || decide (at0 xs (j-1)<at0 xs j)
def incB (xs:List Int):Bool:=allN (stepB xs) xs.length
theorem qkG {xs:List Int} (hl:xs.length≤1048576):Ev (fun n=>qdU n xs) (incB xs):=by
 have hL:Ev (fun n=>qaC xs n 1) (bif incB xs then .nxt (max 1 xs.length:Int) else .ret false):=by
  by_cases h0:xs.length=0
  ·have hb:incB xs=true:=by unfold incB;rw [h0];rfl
   rw [hb]
   refine Ev.succ ?_
   have:decide ((1:Int)<(xs.length:Int))=false:=by rw [h0];decide
   simp only [qaC,this,cond_false]
   exact Ev.now (by rw [h0];rfl)
  ·have:=qow (Lf:=qaC xs) (len:=xs.length) (i0:=1) (f:=stepB xs) (bad:=false) (fin:=.nxt (max 1 xs.length:Int)) (by omega)
    (Ev.succ (by
     simp only [qaC,qj (je _),cond_false]
     exact Ev.now (by congr 2;omega)))
    (fun j h1 hj X hX=>Ev.succ (by
     simp only [qaC,qi hj,cond_true,wS j,show (j:Int)-1=((j-1:Nat):Int) by omega,qbK (show -9223372036854775808≤((j-1:Nat):Int) by omega) (by omega),qbi (show j-1<xs.length by omega),qbi hj,jd]
     unfold stepB
     by_cases hc:at0 xs (j-1)<at0 xs j
     ·have e1:decide (at0 xs (j-1) ≥ at0 xs j)=false:=by simp;omega
      rw [e1];simp only [hc,decide_true,Bool.or_true,cond_true,cond_false];exact hX
     ·have e1:decide (at0 xs (j-1) ≥ at0 xs j)=true:=by simp;omega
      have e2:decide (j=0)=false:=by simp;omega
      rw [e1,e2];simp only [hc,decide_false,Bool.or_self,cond_true,cond_false];exact .done))
   have e:allN (fun j=>stepB xs (1+j)) (xs.length-1)=incB xs:=by
    unfold incB
    rw [ji,qag,qag]
    constructor
    ·intro h j hj
     cases j with
     | zero=>rfl
     | succ j=>have:=h j (by omega);rwa [Nat.add_comm] at this
    ·intro h j hj
     exact h (1+j) (by omega)
   rw [e] at this
   exact this
 unfold qdU
 refine Ev.bind hL ?_
 cases incB xs<;>exact .done
def lenB {α:Type} (xs:List α) (lo hi:Nat):Bool:=decide (lo≤xs.length)&&decide (xs.length≤hi)
theorem qmV {α:Type} {xs:List α} {lo hi:Nat}:inI (xs.length:Int) (lo:Int) (hi:Int)=lenB xs lo hi:=by
 unfold inI lenB;rw [ji];simp
def axisB (xs:List Int):Bool:=lenB xs 1 4&&((xs.all fun x=>inI x 0 100000)&&incB xs)
theorem qmr {xs:List Int} (hl:xs.length≤1048576):Ev (fun n=>qf4 n xs) (axisB xs):=by
 simp only [qf4,qaA,jd,qcj,show inI (xs.length:Int) 1 4=lenB xs 1 4 from qmV (lo:=1) (hi:=4)]
 unfold axisB
 cases lenB xs 1 4
 ·exact .done
 ·refine Ev.tt rfl (Ev.bind (qeh hl) ?_)
  cases (xs.all fun x=>inI x 0 100000)
  ·exact .done
  ·exact Ev.tt rfl (Ev.bind (qkG hl) .done)
theorem qlB {xs:List Int} (hl:xs.length≤1048576):Ev (fun n=>qe8 n xs) (axisB xs):=by
 have hL:Ev (fun n=>qb4 xs n 0) (bif allN (fun j=>inI (at0 xs j) 0 100000&&stepB xs j) xs.length then .nxt (xs.length:Int) else .ret false):=by
  refine qcY ?_ (fun j hj X hX=>Ev.succ ?_)
  ·exact Ev.succ (by simp only [qb4,qj (je _),cond_false];exact .done)
  ·simp only [qb4,qi hj,cond_true,qbi hj,jd,qdB,wS j]
   cases inI (at0 xs j) 0 100000
   ·exact .done
   ·simp only [Bool.not_true,cond_false,jC]
    unfold stepB
    by_cases h0:j=0
    ·subst h0
     exact Ev.ff (by decide) hX
    ·simp only [show (j:Int)-1=((j-1:Nat):Int) by omega,qbK (show -9223372036854775808≤((j-1:Nat):Int) by omega) (by omega),qbi (show j-1<xs.length by omega),jd]
     have e2:decide (j=0)=false:=by simp;omega
     have e3:decide ((j:Int) > 0)=true:=by simp;omega
     rw [e2,e3]
     simp only [cond_true,Bool.false_or]
     by_cases hc:at0 xs (j-1)<at0 xs j
     ·have e1:decide (at0 xs (j-1) ≥ at0 xs j)=false:=by simp;omega
      rw [e1];simp only [hc,decide_true,cond_true,cond_false];exact hX
     ·have e1:decide (at0 xs (j-1) ≥ at0 xs j)=true:=by simp;omega
      rw [e1];simp only [hc,decide_false,cond_true,cond_false];exact .done
 have e:axisB xs=(allN (fun j=>inI (at0 xs j) 0 100000&&stepB xs j) xs.length&&lenB xs 1 4):=by
  unfold axisB incB
  rw [qiI,qf5 (d:=0),Bool.and_comm]
  rfl
 rw [e]
 unfold qe8
 refine Ev.bind hL ?_
 cases allN (fun j=>inI (at0 xs j) 0 100000&&stepB xs j) xs.length
 ·exact .done
 ·simp only [cond_true,qiN,qjD,jC]
  exact Ev.now (by congr 1;unfold lenB;rw [ji];simp;omega)
def tableB (t:qp):Bool:=axisB t.Bd&&(axisB t.Be&&(decide (t.Ay.length=t.Bd.length*t.Be.length)&&(t.Ay.all fun x=>inI x (-1000000) 1000000)))
theorem qou {a b:Nat} (ha:a≤1048576) (hb:b≤1048576):W64 ((a:Int)*(b:Int))=((a*b:Nat):Int):=by
 have h:a*b≤1048576*1048576:=Nat.mul_le_mul ha hb
 have e:(a:Int)*(b:Int)=((a*b:Nat):Int):=by simp
 rw [e]
 exact qbK (by omega) (by omega)
theorem qoi {t:qp} (h:qfo t):Ev (fun n=>qgy n t) (tableB t):=by
 unfold qgy tableB
 refine Ev.bind (qmr h.Bd.len) ?_
 cases axisB t.Bd
 ·exact .done
 ·refine Ev.tt rfl (Ev.bind (qmr h.Be.len) ?_)
  cases axisB t.Be
  ·exact .done
  ·rw [qou h.Bd.len h.Be.len]
   have e:(((t.Ay.length:Nat):Int)==((t.Bd.length*t.Be.length:Nat):Int))=decide (t.Ay.length=t.Bd.length*t.Be.length):=by rw [ji];simp;omega
   rw [e]
   cases decide (t.Ay.length=t.Bd.length*t.Be.length)
   ·exact .done
   ·exact Ev.tt rfl (Ev.tt rfl (Ev.bind (qeh h.Ay.len) .done))
theorem qnH {t:qp} (h:qfo t):Ev (fun n=>qgG n t) (tableB t):=by
 have hl:=h.Ay.len
 have hL:Ev (fun n=>qcD t n 0) (bif (t.Ay.all fun x=>inI x (-1000000) 1000000) then .nxt (t.Ay.length:Int) else .ret false) :=
  qjN (fun n=>by simp only [qcD,qj (je _),cond_false]) (fun j hj X hX=>by
   simp only [qcD,qi hj,cond_true,qgk hj,jd,qdB,wS j]
   cases inI t.Ay[j] (-1000000) 1000000
   ·exact .done
   ·exact hX)
 unfold qgG tableB
 refine Ev.bind (b:=!(axisB t.Bd&&(axisB t.Be&&decide (t.Ay.length=t.Bd.length*t.Be.length)))) ?_ ?_
 ·refine Ev.bind (qlB h.Bd.len) ?_
  cases axisB t.Bd
  ·exact .done
  ·refine Ev.ff rfl (Ev.bind (qlB h.Be.len) ?_)
   cases axisB t.Be
   ·exact .done
   ·refine Ev.ff rfl (Ev.now ?_)
    rw [qou h.Bd.len h.Be.len]
    congr 1
    rw [ji];simp;omega
 ·cases axisB t.Bd
  ·exact .done
  ·cases axisB t.Be
   ·exact .done
   ·cases decide (t.Ay.length=t.Bd.length*t.Be.length)
    ·exact .done
    ·refine Ev.ff rfl (Ev.bind hL ?_)
     cases (t.Ay.all fun x=>inI x (-1000000) 1000000)<;>exact .done
end Go.Fw


namespace Go.Fw
open Go
set_option maxRecDepth 100000
instance:Inhabited qR:=⟨⟨ByteArray.empty,0,0,false⟩⟩
instance:Inhabited qp:=⟨⟨[],[],[]⟩⟩
instance:Inhabited qL:=⟨⟨0,0,0,0,[],[]⟩⟩
instance:Inhabited qn:=⟨⟨ByteArray.empty,0,[],[],[],0,0⟩⟩
instance:Inhabited qe:=⟨⟨ByteArray.empty,0,[]⟩⟩
instance:Inhabited qO:=⟨⟨ByteArray.empty,0,0⟩⟩
instance:Inhabited qC:=⟨⟨[],[],[],[]⟩⟩
theorem lastE {j m:Nat} (h:j<m) (hm:m≤1048576):((j:Int)==W64 ((m:Int)-1))=decide (j+1=m):=by
 rcases qrm h with h|h
 ·exact h
 ·omega
theorem qgL {α:Type} [Inhabited α] {xs:List α} {g:α→ByteArray} {j:Nat} (h:j<xs.length):strAt (xs.map g) j=g (gt xs j):=by
 rw [qjI (by simpa using h),qh6 h];simp
theorem qi0 {α:Type} {xs:List α} {g:α→ByteArray} {ok:α→Prop} (h:okL ok xs) (hg:∀ x,ok x→okS (g x)):okL okS (xs.map g) :=
 ⟨by rw [jG];exact h.1,fun y hy=>by
  obtain ⟨x,hx,rfl⟩:=List.mem_map.1 hy
  exact hg x (h.2 x hx)⟩
theorem qhJ {α β:Type} {xs:List α} {g:α→β} {j:Nat} (h:j<xs.length) (hl:xs.length≤1048576) {y:β}:appS ((xs.take j).map g) [y]=some ((xs.take j).map g++[y]) :=
 qdq (by simp;omega)
def pinB (ps:List qR) (j:Nat):Bool :=
 bif decide (j+1=ps.length) then ((gt ps j).Bm==2)&&(((gt ps j).Bk==0)&&!(gt ps j).Bf) else ((gt ps j).Bm==1)&&inI (gt ps j).Bk 0 500
def pinsB (ps:List qR):Bool:=allN (pinB ps) ps.length&&(lenB ps 2 5&&namesB (ps.map qR.Ar))
def clkN (ps:List qR) (j:Nat):Nat:=cntP (fun i=>(gt ps i).Bf) j
theorem qn6 {ps:List qR} (h:okL qip ps):Ev (fun n=>qgt n ps) (pinsB ps):=by
 have hl:=h.len
 have hL:Ev (fun n=>qbv ps n ([]:List ByteArray) 0) (bif allN (pinB ps) ps.length then .nxt (ps.map qR.Ar,(ps.length:Int)) else .ret false):=by
  refine loopN (Lf:=qbv ps) (S:=fun j=>(ps.take j).map qR.Ar) (pinB ps) (fun n=>?_) (fun j hj hp X hX=>?_)
  ·simp only [qbv,qj (je _),cond_false,jK]
  ·simp only [qbv,qi hj,cond_true,qM hj,jd,qhJ hj hl,qdn (g:=qR.Ar) hj,lastE hj hl,bne,qbA,qcj,wS j]
   generalize hc:pinB ps j=c at hX ⊢
   unfold pinB at hc
   cases hd:decide (j+1=ps.length)
   ·rw [hd] at hc
    simp only [cond_false] at hc ⊢
    subst hc
    exact Ev.okP (fun h1=>Ev.okP1 (fun h2=>hX (by rw [h1,h2];rfl)))
   ·rw [hd] at hc
    simp only [cond_true] at hc ⊢
    subst hc
    refine Ev.okP (fun h1=>Ev.okP (fun h2=>Ev.chkP1 (fun h3=>hX (by rw [h1,h2,h3];rfl))))
 unfold qgt pinsB
 refine Ev.bind hL ?_
 cases allN (pinB ps) ps.length
 ·exact .done
 ·simp only [cond_true,qa5,qcj,jd,show inI (ps.length:Int) 2 5=lenB ps 2 5 from qmV (lo:=2) (hi:=5),jC]
  exact Ev.andP (fun _=>Ev.last (qgg (qi0 h (fun x hx=>hx.Ar))))
def pinS (ps:List qR) (j:Nat):Bool:=allN (neB (ps.map qR.Ar) j) j&&((nameB (gt ps j).Ar&&inI (gt ps j).Bk 0 500)&&(bif decide (j+1=ps.length) then ((gt ps j).Bm==2)&&(((gt ps j).Bk==0)&&!(gt ps j).Bf) else ((gt ps j).Bm==1)))
theorem qqM {ps:List qR}:(lenB ps 2 5&&allN (pinS ps) ps.length)=pinsB ps:=by
 have e:namesB (ps.map qR.Ar)=allN (fun j=>nameB (gt ps j).Ar&&allN (neB (ps.map qR.Ar) j) j) ps.length:=by
  unfold namesB
  rw [jG]
  exact qeQ (fun j hj=>by rw [qgL hj])
 unfold pinsB
 rw [e,←Bool.and_assoc,Bool.and_comm (allN (pinB ps) ps.length),Bool.and_assoc,←qiI]
 congr 1
 refine qeQ (fun j hj=>?_)
 unfold pinS pinB
 cases hd:decide (j+1=ps.length)
 ·simp only [cond_false]
  cases allN (neB (ps.map qR.Ar) j) j<;>cases nameB (gt ps j).Ar<;>cases inI (gt ps j).Bk 0 500<;>cases ((gt ps j).Bm==1)<;>rfl
 ·simp only [cond_true]
  cases hcap:((gt ps j).Bk==0)
  ·simp
  ·have:inI (gt ps j).Bk 0 500=true:=by rw [beq_iff_eq] at hcap;rw [hcap];rfl
   rw [this]
   cases allN (neB (ps.map qR.Ar) j) j<;>cases nameB (gt ps j).Ar<;>cases ((gt ps j).Bm==2)<;>cases (gt ps j).Bf<;>rfl
theorem qnS {c:qn} (h:okL qip c.Ap):Ev (fun n=>qgE n c) (bif pinsB c.Ap then (((clkN c.Ap c.Ap.length:Nat):Int),true) else (0,false)):=by
 have hl:=h.len
 have hL2:∀ j,j<c.Ap.length→Ev (fun n=>qcK c (j:Int) (gt c.Ap j) n 0) (bif allN (neB (c.Ap.map qR.Ar) j) j then .nxt (j:Int) else .ret (0,false)):=by
  intro j hj
  refine qcY ?_ (fun i hi X hX=>Ev.succ ?_)
  ·exact Ev.succ (by simp only [qcK,qj (je _),cond_false];exact .done)
  ·simp only [qcK,qi hi,cond_true,qM (show i<c.Ap.length by omega),jd,qeH,wS i]
   unfold neB
   rw [qgL (g:=qR.Ar) (show i<c.Ap.length by omega),qgL (g:=qR.Ar) hj]
   exact Ev.chkP1 (fun _=>hX)
 have hL1:Ev (fun n=>qbt c n 0 0) (bif allN (pinS c.Ap) c.Ap.length then .nxt (((clkN c.Ap c.Ap.length:Nat):Int),(c.Ap.length:Int)) else .ret (0,false)):=by
  refine loopN (Lf:=qbt c) (S:=fun j=>((clkN c.Ap j:Nat):Int)) (pinS c.Ap) (fun n=>?_) (fun j hj hp X hX=>?_)
  ·simp only [qbt,qj (je _),cond_false]
  ·have hn:clkN c.Ap j≤j:=qdW
   have ejl:((j:Int)==W64 ((c.Ap.length:Int)-1))=decide (j+1=c.Ap.length):=lastE hj hl
   have elt:decide ((j:Int)<W64 ((c.Ap.length:Int)-1)) = !decide (j+1=c.Ap.length):=by
    rw [qbK (by omega) (by omega),ji];simp;omega
   simp only [qbt,qi hj,cond_true,qM hj,jd,wS j,qiA (show clkN c.Ap j<9223372036854775807 by omega),ejl,elt,qdB]
   unfold pinS
   refine Ev.bind (hL2 j hj) ?_
   cases ha:allN (neB (c.Ap.map qR.Ar) j) j
   ·exact .done
   ·simp only [cond_true,jC]
    refine Ev.chkT ?_ (fun h1=>?_)
    ·exact Ev.or (qjh (qio h hj).Ar) (fun _=>.done)
    ·refine Ev.chkT1 ?_ (fun h2=>?_)
     ·cases decide (j+1=c.Ap.length)
      ·exact .done
      ·simp only [cond_true,Bool.not_true,cond_false,bne,qbA]
       cases ((gt c.Ap j).Bm==2)<;>cases ((gt c.Ap j).Bk==0)<;>cases (gt c.Ap j).Bf<;>exact .done
     ·have hX:=hX (by unfold pinS;rw [ha,h1,h2];rfl)
      have hck:clkN c.Ap (j+1)=clkN c.Ap j+(bif (gt c.Ap j).Bf then 1 else 0):=rfl
      rw [hck] at hX
      cases hc:(gt c.Ap j).Bf
      ·rw [hc] at hX;exact Ev.ff rfl hX
      ·rw [hc] at hX;exact Ev.tt rfl hX
 rw [←qqM]
 unfold qgE
 refine Ev.guard ?_ (fun h1=>?_)
 ·unfold lenB
  have e1:decide ((c.Ap.length:Int)<2) = !decide (2≤c.Ap.length):=by rw [ji];simp;omega
  have e2:decide ((c.Ap.length:Int) > 5) = !decide (c.Ap.length≤5):=by rw [ji];simp;omega
  rw [e1,e2]
  cases decide (2≤c.Ap.length)<;>cases decide (c.Ap.length≤5)<;>exact .done
 ·refine Ev.bind hL1 ?_
  cases allN (pinS c.Ap) c.Ap.length<;>exact .done
def mnL (xs:List Int):Int:=(xs.drop 1).foldl (fun m y=>if y<m then y else m) (at0 xs 0)
def mxL (xs:List Int):Int:=(xs.drop 1).foldl (fun m y=>if y > m then y else m) (at0 xs 0)
theorem qlJ {t:qp} (h:tableB t=true):1≤t.Ay.length:=by
 unfold tableB axisB lenB at h
 simp only [jf,decide_eq_true_eq] at h
 obtain ⟨⟨⟨h1,_⟩,_⟩,⟨⟨h2,_⟩,_⟩,h3,_⟩:=h
 rw [h3]
 exact Nat.mul_pos h1 h2
theorem qre {xs:List Int} (h1:1≤xs.length) (hl:xs.length≤1048576):Ev (fun n=>qeu n xs) (mnL xs):=by
 have hL:=(qmu (Lf:=fun n t j=>qbr xs n t j) (xs:=xs) (step:=fun (m y:Int)=>if y<m then y else m) (fin:=fun t=>(t,(xs.length:Int))) 1 (at0 xs 0) (fun _ _=>True) h1 trivial (fun _ _ _ _=>trivial)
  (fun n t=>by simp only [qbr,qj (je _),cond_false])
  (fun j t hj _ X hX=>by simpa only [qbr,qi hj,cond_true,qgk hj,jd,wS j] using hX)).1
 unfold qeu
 rw [show decide ((xs.length:Int)<1)=false by simp;omega,show idx xs (0:Int)=some (at0 xs 0) from qbi (j:=0) (by omega)]
 simp only [cond_false,jd]
 exact Ev.bind hL .done
theorem qoj {t:qp} (h:qfo t):Ev (fun n=>qep n t) (bif tableB t then (⟨mnL t.Ay,mxL t.Ay⟩,0) else (⟨0,0⟩,1)):=by
 unfold qep
 refine Ev.chk1 (qnH h) (fun hb=>?_)
 have h1:=qlJ hb
 have hl:=h.Ay.len
 have hL:=(qmu (Lf:=fun n (t':Int × Int) j=>qbs t n t'.1 t'.2 j) (xs:=t.Ay) (step:=fun (m:Int × Int) y=>(if y<m.1 then y else m.1,if y > m.2 then y else m.2)) (fin:=fun t'=>(t'.1,t'.2,(t.Ay.length:Int))) 1 (at0 t.Ay 0,at0 t.Ay 0) (fun _ _=>True) h1 trivial (fun _ _ _ _=>trivial)
  (fun n t=>by simp only [qbs,qj (je _),cond_false])
  (fun j t hj _ X hX=>by simpa only [qbs,qi hj,cond_true,qgk hj,jd,wS j] using hX)).1
 have hf:∀ (ys:List Int) (a b:Int),ys.foldl (fun (m:Int × Int) y=>(if y<m.1 then y else m.1,if y > m.2 then y else m.2)) (a,b)=(ys.foldl (fun m y=>if y<m then y else m) a,ys.foldl (fun m y=>if y > m then y else m) b):=by
  intro ys
  induction ys with
  | nil=>intro a b;rfl
  | cons y ys ih=>intro a b;simp only [List.foldl_cons,ih]
 rw [hf] at hL
 rw [show idx t.Ay (0:Int)=some (at0 t.Ay 0) from qbi (j:=0) (by omega)]
 simp only [jd]
 exact Ev.bind hL .done
def tabB (pos:Bool) (t:qp):Bool:=tableB t&&(!pos || decide (0≤mnL t.Ay))
def tablesB (ts:List qp) (pos:Bool):Bool:=decide (ts.length=2)&&ts.all (tabB pos)
theorem qhU {ts:List qp} {pos:Bool} (h:okL qfo ts):Ev (fun n=>qde n ts pos) (tablesB ts pos):=by
 have hl:=h.len
 have h1:Ev (fun n=>qV n ts pos) (ixL (fun x=>!tabB pos x) ts) :=
  qeD (fin:=(ts.length:Int)) (Lf:=qA ts pos) (pf:=fun n x=>qek n x pos) (fun x hx=>by
    unfold qek tabB
    refine Ev.or (qoi (h.2 x hx)) (fun hb=>?_)
    cases pos
    ·exact .done
    ·refine Ev.tt rfl (Ev.bind (qre (qlJ hb) (h.2 x hx).Ay.len) (Ev.now ?_))
     congr 1
     rw [ji];simp)
   (fun n=>by simp only [qA,qj (je _),cond_false])
   (fun n j x hx=>by
    have hj:=(List.getElem?_eq_some_iff.1 hx).1
    simp only [qA,qi hj,cond_true,qU hx,jd,wS j])
   (fun n=>by unfold qV;congr 1;funext o;cases o<;>rfl)
 unfold qde qaf tablesB
 rw [show ((ts.length:Int)==2)=decide (ts.length=2) by rw [ji];simp;omega]
 refine Ev.andP (fun _=>Ev.bind (Ev.bind h1 (Ev.now rfl)) (Ev.now ?_))
 rw [qjl,qkZ]
theorem qe3 {ts:List qp} {pos:Bool} (h:okL qfo ts):Ev (fun n=>qbO n ts pos) (tablesB ts pos):=by
 unfold qbO tablesB
 rw [show ((ts.length:Int) != 2) = !decide (ts.length=2) by rw [ji];simp;omega]
 simp only [qbA]
 refine Ev.andP (fun h2=>?_)
 have h2:ts.length=2:=by simpa using h2
 have hL:Ev (fun n=>qbk ts pos n 0) (bif allN (fun j=>tabB pos (gt ts j)) ts.length then .nxt (2:Int) else .ret false):=by
  refine qcY (len:=ts.length) ?_ (fun j hj X hX=>Ev.succ ?_)
  ·rw [h2];exact Ev.succ (by simp only [qbk];exact .done)
  ·simp only [qbk,show decide ((j:Int)<2)=true by simp;omega,cond_true,qM hj,jd,wS j]
   refine Ev.bind (qoj (qio h hj)) ?_
   unfold tabB
   cases tableB (gt ts j)
   ·exact .done
   ·simp only [cond_true,jC]
    refine Ev.ff rfl ?_
    cases pos
    ·exact hX
    ·refine Ev.tt rfl ?_
     rw [show decide (mnL (gt ts j).Ay<0) = !decide (0≤mnL (gt ts j).Ay) by rw [ji];simp]
     simp only [qbA]
     exact Ev.okP1 (fun _=>hX)
 rw [qgj]
 refine Ev.bind hL ?_
 cases allN (fun j=>tabB pos (gt ts j)) ts.length<;>exact .done
end Go.Fw


namespace Go.Fw
open Go
set_option maxRecDepth 100000
theorem qgR {α:Type} [Inhabited α] {xs:List α} {x:Int} (h0:0≤x) (h1:x<xs.length):idx xs x=some (gt xs x.toNat):=by
  have:=qM (xs:=xs) (j:=x.toNat) (by omega)
  rwa [←qii h0] at this
theorem ql6 {q:Nat→Bool} {m n:Nat} (h:m≤n):cntP q m≤cntP q n:=by
  induction n with
  | zero =>
    obtain rfl:m=0:=by omega
    exact je _
  | succ n ih =>
    rcases Nat.lt_or_eq_of_le h with h|rfl
    · exact Nat.le_trans (ih (by omega)) (Nat.le_add_right _ _)
    · exact je _
theorem qiY {m k:Nat}:decide ((m:Int)≤(k:Int))=decide (m≤k):=by rw [ji];simp
theorem qnv {q:Nat→Bool} {n i j:Nat} (hi:i<j) (hj:j<n) (h1:q i=true) (h2:q j=true):2≤cntP q n:=by
  have e1:cntP q (i+1)=cntP q i+1:=by rw [cntP,h1];rfl
  have e2:cntP q (j+1)=cntP q j+1:=by rw [cntP,h2];rfl
  have m1:=ql6 (q:=q) (show i+1≤j by omega)
  have m2:=ql6 (q:=q) (show j+1≤n by omega)
  omega
theorem qnq {q:Nat→Bool} {n i j:Nat} (hn:cntP q n≤1) (hi:i<n) (hj:j<n) (h1:q i=true) (h2:q j=true):i=j:=by
  rcases Nat.lt_trichotomy i j with h|h|h
  · have:=qnv h hj h1 h2;omega
  · exact h
  · have:=qnv h hi h2 h1;omega
def clkIx (ps:List qR):Int:=ixL (fun p=>p.Bf) ps
def clkAt (ps:List qR) (x:Int):Bool:=(gt ps x.toNat).Bf
theorem qqp {c:qn} (hl:c.Ap.length≤1048576):Ev (fun n=>qeN n c) (clkIx c.Ap):=by
  unfold qeN
  refine Ev.bind (b:=clkIx c.Ap) ?_ .done
  exact qeD (fin:=(c.Ap.length:Int)) (Lf:=qB c.Ap) (pf:=fun n x=>qfj n x) (fun _ _=>.done)
    (fun n=>by simp only [qB,qj (je _),cond_false])
    (fun n j x hx=>by
      have hj:=(List.getElem?_eq_some_iff.1 hx).1
      simp only [qB,qi hj,cond_true,qU hx,jd,wS j])
    (fun n=>by unfold qaB;congr 1;funext o;cases o<;>rfl)
def arcI (ps:List qR) (a:qL):Bool :=
  bif (a.Av==4) || (a.Av==5) then
    (a.Bi==0)&&(((a.Az.length:Int)==0)&&(tablesB a.Bh false&&((a.Bb==clkIx ps)&&(decide (a.Bb ≥ 0)&&(inI a.To 0 (ps.length-2)&&!(a.To==a.Bb))))))
  else
    (tablesB a.Bh true&&(tablesB a.Az true&&((a.To==(ps.length:Int)-1)&&inI a.Bb 0 (ps.length-2)))) &&
      (bif a.Av==1 then !clkAt ps a.Bb&&inI a.Bi 1 3 else (bif (a.Av==2) || (a.Av==3) then clkAt ps a.Bb&&(a.Bi==0) else false))
def arcS (ps:List qR) (a:qL):Bool :=
  (inI a.Bb 0 (ps.length-2)&&inI a.To 0 (ps.length-1)) &&
    (bif a.Av==1 then !clkAt ps a.Bb&&((a.To==(ps.length:Int)-1)&&(inI a.Bi 1 3&&(tablesB a.Bh true&&tablesB a.Az true)))
     else (bif (a.Av==2) || (a.Av==3) then clkAt ps a.Bb&&((a.To==(ps.length:Int)-1)&&((a.Bi==0)&&(tablesB a.Bh true&&tablesB a.Az true)))
     else (bif (a.Av==4) || (a.Av==5) then clkAt ps a.Bb&&(decide (a.To<(ps.length:Int)-1)&&(!clkAt ps a.To&&((a.Bi==0)&&(tablesB a.Bh false&&((a.Az.length:Int)==0))))) else false)))
theorem qks {c d:Bool}:(bif c then some c else some d)=some (c || d):=by cases c<;>rfl
theorem qng {c d:Bool}:(bif c then some true else some d)=some (c || d):=by cases c<;>rfl
theorem qob {n:Nat} {k:Int}:qgp n k=some ((k==4) || (k==5)):=by simp only [qgp,qng]
theorem qpJ {c:qn} {a:qL} (h:okL qip c.Ap) (ha:qjo a) (hm:2≤c.Ap.length):Ev (fun n=>qeI n c a) (arcI c.Ap a):=by
  have hl:=h.len
  have e1:W64 ((c.Ap.length:Int)-1)=(c.Ap.length:Int)-1:=qdJ (by omega)
  have e2:W64 ((c.Ap.length:Int)-1-1)=(c.Ap.length:Int)-2:=by rw [qbK (by omega) (by omega)];omega
  simp only [qeI,qob,jd,qd0,qcp,qa5,e1,e2,qcj,qks,bne]
  unfold arcI
  refine Ev.iff (fun _=>Ev.last ?_) (fun _=>Ev.guardB ?_ (fun hb=>?_))
  · exact Ev.andP fun _=>Ev.andP fun _=>Ev.and (qhU ha.Bh) fun _=>Ev.bind (qqp hl) (Ev.andP fun _=>Ev.andP fun _=>Ev.andP fun _=>.done)
  · refine Ev.or (qhU ha.Bh) fun _=>Ev.or (qhU ha.Az) fun _=>?_
    simp only [qbA]
    exact Ev.orBP fun _=>.done
  · have hf:0≤a.Bb∧a.Bb≤(c.Ap.length:Int)-2:=by
      simp only [jf,qby] at hb
      exact hb.2.2.2
    simp only [qgR hf.1 (show a.Bb<(c.Ap.length:Int) by omega),jd]
    exact Ev.iff (fun _=>Ev.andP fun _=>.done) (fun _=>Ev.iff (fun _=>Ev.andP fun _=>.done) (fun _=>.done))
theorem qpi {c:qn} {a:qL} (h:okL qip c.Ap) (ha:qjo a) (hm:2≤c.Ap.length):Ev (fun n=>qhf n c a) (arcS c.Ap a):=by
  have hl:=h.len
  have e1:W64 ((c.Ap.length:Int)-1)=(c.Ap.length:Int)-1:=qdJ (by omega)
  have e2:W64 ((c.Ap.length:Int)-1-1)=(c.Ap.length:Int)-2:=by rw [qbK (by omega) (by omega)];omega
  simp only [qhf,jd,e1,e2,qdB,qks]
  unfold arcS
  refine Ev.guardB ?_ (fun hb=>?_)
  · simp only [qbA]
    exact Ev.orBP fun _=>.done
  · have hf:(0≤a.Bb∧a.Bb≤(c.Ap.length:Int)-2)∧(0≤a.To∧a.To≤(c.Ap.length:Int)-1):=by
      simp only [jf,qby] at hb
      exact hb
    simp only [qgR hf.1.1 (show a.Bb<(c.Ap.length:Int) by omega),qgR hf.2.1 (show a.To<(c.Ap.length:Int) by omega),jd]
    refine Ev.iff (fun _=>?_) (fun _=>Ev.iff (fun _=>?_) (fun _=>Ev.iff (fun _=>?_) (fun _=>.done)))
    · exact Ev.andP fun _=>Ev.andP fun _=>Ev.andP fun _=>Ev.and (qe3 ha.Bh) fun _=>Ev.last (qe3 ha.Az)
    · exact Ev.andP fun _=>Ev.andP fun _=>Ev.andP fun _=>Ev.and (qe3 ha.Bh) fun _=>Ev.last (qe3 ha.Az)
    · exact Ev.andP fun _=>Ev.andP fun _=>Ev.andP fun _=>Ev.andP fun _=>Ev.and (qe3 ha.Bh) fun _=>.done
theorem qkl {ps:List qR} (h1:clkN ps ps.length≤1) {x:Int} (hx:0≤x):clkIx ps=x↔x<ps.length∧clkAt ps x=true:=by
  unfold clkIx ixL
  cases hf:ps.findIdx? (fun p=>p.Bf) with
  | some j =>
    obtain ⟨hj,hp,_⟩:=List.findIdx?_eq_some_iff_getElem.1 hf
    have hpj:(gt ps j).Bf=true:=by rw [qh6 hj];exact hp
    constructor
    · intro e
      have e:(j:Int)=x:=e
      subst e
      exact ⟨by omega,by unfold clkAt;rw [jz];exact hpj⟩
    · rintro ⟨hl,hc⟩
      have:=qnq h1 hj (show x.toNat<ps.length by omega) hpj hc
      show (j:Int)=x
      omega
  | none =>
    have hn:=List.findIdx?_eq_none_iff.1 hf
    constructor
    · intro e
      have e:(-1:Int)=x:=e
      omega
    · rintro ⟨hl,hc⟩
      have hxl:x.toNat<ps.length:=by omega
      unfold clkAt at hc
      rw [qh6 hxl] at hc
      have:=hn _ (jt hxl)
      rw [hc] at this
      exact absurd this (by decide)
theorem qfA {ps:List qR} (h:pinsB ps=true):(2≤ps.length∧ps.length≤5)∧clkAt ps ((ps.length:Int)-1)=false:=by
  unfold pinsB lenB at h
  simp only [jf,decide_eq_true_eq] at h
  refine ⟨h.2.1,?_⟩
  have h1:=qag.1 h.1 (ps.length-1) (by omega)
  unfold pinB at h1
  rw [show decide (ps.length-1+1=ps.length)=true by simp;omega] at h1
  simp only [cond_true,jf,jx] at h1
  unfold clkAt
  rw [show ((ps.length:Int)-1).toNat=ps.length-1 by omega]
  exact h1.2.2
theorem qpK {ps:List qR} {a:qL} (h:pinsB ps=true) (h1:clkN ps ps.length≤1):arcI ps a=arcS ps a:=by
  obtain ⟨⟨hm,hm5⟩,hlast⟩:=qfA h
  rw [ji]
  unfold arcI arcS
  cases h45:((a.Av==4) || (a.Av==5)) with
  | true =>
    have k1:(a.Av==1)=false:=by simp at h45 ⊢;omega
    have k23:((a.Av==2) || (a.Av==3))=false:=by simp at h45 ⊢;omega
    rw [k1,k23]
    simp only [cond_true,cond_false,jf,qby,decide_eq_true_eq,beq_iff_eq,jx,beq_eq_false_iff_ne,ne_eq]
    constructor
    · rintro ⟨hs,hsl,hd,hf,hf0,ht,hne⟩
      obtain ⟨hl,hc⟩:=(qkl h1 hf0).1 hf.symm
      have hfl:a.Bb ≠ (ps.length:Int)-1:=by intro e;rw [e,hlast] at hc;cases hc
      refine ⟨⟨⟨hf0,by omega⟩,⟨ht.1,by omega⟩⟩,hc,by omega,?_,hs,hd,hsl⟩
      cases hct:clkAt ps a.To with
      | false=>rfl
      | true =>
        have:=(qkl h1 ht.1).2 ⟨by omega,hct⟩
        omega
    · rintro ⟨⟨hf,ht⟩,hc,hlt,hct,hs,hd,hsl⟩
      have:=(qkl h1 hf.1).2 ⟨by omega,hc⟩
      refine ⟨hs,hsl,hd,this.symm,hf.1,⟨ht.1,by omega⟩,?_⟩
      intro e
      rw [e,hc] at hct
      cases hct
  | false =>
    simp only [cond_false,jf,qby,beq_iff_eq]
    cases (a.Av==1)
    · cases ((a.Av==2) || (a.Av==3))
      · simp
      · simp only [cond_true,cond_false,jf,beq_iff_eq]
        constructor
        · rintro ⟨⟨h1,h2,h3,h4⟩,h5,h6⟩
          exact ⟨⟨h4,by omega⟩,h5,h3,h6,h1,h2⟩
        · rintro ⟨⟨h4,h7⟩,h5,h3,h6,h1,h2⟩
          exact ⟨⟨h1,h2,h3,h4⟩,h5,h6⟩
    · simp only [cond_true,jf,qby,jx,beq_iff_eq]
      constructor
      · rintro ⟨⟨h1,h2,h3,h4⟩,h5,h6⟩
        exact ⟨⟨h4,by omega⟩,h5,h3,h6,h1,h2⟩
      · rintro ⟨⟨h4,h7⟩,h5,h3,h6,h1,h2⟩
        exact ⟨⟨h1,h2,h3,h4⟩,h5,h6⟩
theorem qmo {ps:List qR} {a:qL} (h:arcS ps a=true):1≤a.Av∧a.Av≤5:=by
  unfold arcS at h
  rw [jf] at h
  have h:=h.2
  cases h1:(a.Av==1)
  · cases h2:((a.Av==2) || (a.Av==3))
    · cases h4:((a.Av==4) || (a.Av==5))
      · rw [h1,h2,h4] at h;cases h
      · simp at h4;omega
    · simp at h2;omega
  · simp at h1;omega
def sameArc (x y:qL):Bool:=(x.Av==y.Av)&&((x.Bb==y.Bb)&&(x.To==y.To))
def newArc (ar:List qL) (j:Nat):Bool:=allN (fun i=>!sameArc (gt ar i) (gt ar j)) j
theorem qog {c:qn} (h:okL qip c.Ap) (ha:okL qjo c.Aj) (hm:2≤c.Ap.length):Ev (fun n=>qdZ n c) (allN (fun j=>arcI c.Ap (gt c.Aj j)&&newArc c.Aj j) c.Aj.length&&decide (c.Aj.length≤8)):=by
  have hl:=ha.len
  have h1:∀ (ar:List qL) (y:qL),ar.length≤1048576→Ev (fun n=>qQ n ar y) (ar.any fun x=>sameArc x y):=by
    intro ar y hl
    unfold qQ
    refine Ev.bind (b:=ixL (fun x=>sameArc x y) ar) (qeD (fin:=(ar.length:Int)) (Lf:=qy ar y) (pf:=fun n x=>qc2 n x y) (fun x _=>?_)
      (fun n=>by simp only [qy,qj (je _),cond_false])
      (fun n j x hx=>by
        have hj:=(List.getElem?_eq_some_iff.1 hx).1
        simp only [qy,qi hj,cond_true,qU hx,jd,wS j])
      (fun n=>by unfold qam;congr 1;funext o;cases o<;>rfl)) (Ev.now (by rw [qjl]))
    unfold qc2 sameArc
    exact Ev.andP fun _=>Ev.andP fun _=>.done
  have hL:Ev (fun n=>qa6 c n 0) (bif allN (fun j=>arcI c.Ap (gt c.Aj j)&&newArc c.Aj j) c.Aj.length then .nxt (c.Aj.length:Int) else .ret false):=by
    refine qcY ?_ (fun j hj X hX=>Ev.succ ?_)
    · exact Ev.succ (by simp only [qa6,qj (je _),cond_false];exact .done)
    · simp only [qa6,qi hj,cond_true,qM hj,jd,qoJ (Nat.le_of_lt hj),wS j]
      refine Ev.chk (qpJ h (qio ha hj) hm) fun _=>Ev.chkT1 ?_ (fun _=>hX)
      refine (h1 _ _ (by simp;omega)).cast ?_
      rw [qpw (Nat.le_of_lt hj)];rfl
  unfold qdZ
  refine Ev.bind hL ?_
  cases allN (fun j=>arcI c.Ap (gt c.Aj j)&&newArc c.Aj j) c.Aj.length
  · exact .done
  · refine Ev.now ?_
    show some (decide ((c.Aj.length:Int)≤((8:Nat):Int)))=some (true&&decide (c.Aj.length≤8))
    rw [qiY,jC]
def hasB (ar:List qL) (k:Int):Bool:=ar.any fun a=>a.Av==k
theorem qkp {c:qn} {k:Int} (hl:c.Aj.length≤1048576):Ev (fun n=>qbG n c k) (hasB c.Aj k):=by
  unfold qbG qav
  exact Ev.last (Ev.bind (b:=ixL (fun x=>x.Av==k) c.Aj) (qeD (fin:=(c.Aj.length:Int)) (Lf:=qD c.Aj k) (pf:=fun n x=>qgi n x k) (fun x _=>.done)
      (fun n=>by simp only [qD,qj (je _),cond_false])
      (fun n j x hx=>by
        have hj:=(List.getElem?_eq_some_iff.1 hx).1
        simp only [qD,qi hj,cond_true,qU hx,jd,wS j])
      (fun n=>by unfold qaF;congr 1;funext o;cases o<;>rfl)) (Ev.now (by rw [qjl];rfl)))
def kindN (ar:List qL) (k:Nat) (j:Nat):Nat:=cntP (fun i=>(gt ar i).Av==(k:Int)) j
theorem qmk {ar:List qL} {k:Nat}:decide (((kindN ar k ar.length:Nat):Int) > 0)=hasB ar k:=by
  rw [show decide (((kindN ar k ar.length:Nat):Int) > 0)=decide (0<kindN ar k ar.length) by simp]
  unfold kindN hasB
  rw [qnL,qqm]
theorem qn9 {ar:List qL} {k:Nat}:(((kindN ar k ar.length:Nat):Int)==0) = !hasB ar k:=by
  rw [←qmk,ji];simp
theorem qm7 {c:qn} (ha:okL qjo c.Aj) (hk:∀ j,j<c.Aj.length→1≤(gt c.Aj j).Av∧(gt c.Aj j).Av≤5):Ev (fun n=>qfR n c) (vecC (fun k=>kindN c.Aj k c.Aj.length) 6):=by
  have hl:=ha.len
  have hL:Ev (fun n=>qbD c n (vecC (fun _=>0) 6) 0) (vecC (fun k=>kindN c.Aj k c.Aj.length) 6,(c.Aj.length:Int)):=by
    refine loopF (Lf:=qbD c) (S:=fun j=>vecC (fun k=>kindN c.Aj k j) 6) (len:=c.Aj.length) (fun n=>?_) (fun j hj X hX=>?_)
    · simp only [qbD,qj (je _),cond_false]
    · obtain ⟨k1,k5⟩:=hk j hj
      have ek:(gt c.Aj j).Av=(((gt c.Aj j).Av.toNat:Nat):Int):=qii (by omega)
      have hc:kindN c.Aj (gt c.Aj j).Av.toNat j≤j:=qdW
      simp only [qbD,qi hj,cond_true,qM hj,jd,wS j]
      rw [ek,qg4 (show (gt c.Aj j).Av.toNat<6 by omega)]
      simp only [jd]
      rw [qmi (c:=fun k=>kindN c.Aj k j) (by show kindN c.Aj _ j<_;omega)]
      have:vecC (fun i=>kindN c.Aj i j+(bif decide ((gt c.Aj j).Av.toNat=i) then 1 else 0)) 6=vecC (fun k=>kindN c.Aj k (j+1)) 6:=by
        refine qg2 (fun k _=>?_)
        show _=kindN c.Aj k j+(bif (gt c.Aj j).Av==(k:Int) then 1 else 0)
        congr 2
        rw [ji];simp;omega
      rw [this]
      exact hX
  unfold qfR
  rw [show mkS 6 (0:Int)=some (vecC (fun _=>0) 6) from qiZ (m:=6) (by omega)]
  simp only [jd]
  exact Ev.bind hL .done
def kindB (c:qn):Bool :=
  bif c.Av==1 then (((clkN c.Ap c.Ap.length:Nat):Int)==0)&&(((c.Bg.length:Int)==((2 ^ (c.Ap.length-1):Nat):Int))&&(c.Bg.all fun x=>inI x 0 1))
  else bif c.Av==2 then (((clkN c.Ap c.Ap.length:Nat):Int)==1)&&(((c.Bg.length:Int)==0)&&(!hasB c.Aj 1&&!(hasB c.Aj 2==hasB c.Aj 3)))
  else bif c.Av==3 then (((clkN c.Ap c.Ap.length:Nat):Int)==1)&&(((c.Bg.length:Int)==0)&&(hasB c.Aj 1&&(hasB c.Aj 2&&!hasB c.Aj 3)))
  else false
theorem qml {c:qn} (h:kindB c=true):clkN c.Ap c.Ap.length≤1:=by
  unfold kindB at h
  cases h1:(c.Av==1)
  · cases h2:(c.Av==2)
    · cases h3:(c.Av==3)
      · rw [h1,h2,h3] at h;cases h
      · rw [h1,h2,h3] at h
        simp only [cond_true,cond_false,jf,beq_iff_eq] at h
        omega
    · rw [h1,h2] at h
      simp only [cond_true,cond_false,jf,beq_iff_eq] at h
      omega
  · rw [h1] at h
    simp only [cond_true,jf,beq_iff_eq] at h
    omega
theorem qno {m:Nat} (h1:2≤m) (h2:m≤5):shlS 1 (W64 ((m:Int)-1))=some ((2 ^ (m-1):Nat):Int)∧shlS 1 (IntKind.wrap .u64 (W64 ((m:Int)-1)))=some ((2 ^ (m-1):Nat):Int):=by
  have:m=2∨m=3∨m=4∨m=5:=by omega
  rcases this with rfl|rfl|rfl|rfl<;>exact ⟨by decide,by decide⟩
theorem qns {c:qn} (hc:qiU c) (hm:2≤c.Ap.length) (hm5:c.Ap.length≤5):Ev (fun n=>qdl n c) (kindB c):=by
  have hl:=hc.Ap.len
  have hL:Ev (fun n=>qao c n 0 0) (((clkN c.Ap c.Ap.length:Nat):Int),(c.Ap.length:Int)):=by
    refine loopF (Lf:=qao c) (S:=fun j=>((clkN c.Ap j:Nat):Int)) (len:=c.Ap.length) (fun n=>?_) (fun j hj X hX=>?_)
    · simp only [qao,qj (je _),cond_false]
    · have hn:clkN c.Ap j≤j:=qdW
      simp only [qao,qi hj,cond_true,qM hj,jd,wS j,qiA (show clkN c.Ap j<9223372036854775807 by omega)]
      have hck:clkN c.Ap (j+1)=clkN c.Ap j+(bif (gt c.Ap j).Bf then 1 else 0):=rfl
      rw [hck] at hX
      cases hc:(gt c.Ap j).Bf
      · rw [hc] at hX;exact Ev.ff rfl hX
      · rw [hc] at hX;exact Ev.tt rfl hX
  unfold qdl kindB
  refine Ev.bind hL ?_
  simp only [qcp,qa5,jd,(qno hm hm5).1]
  have hal:=hc.Aj.len
  refine Ev.iff (fun _=>?_) (fun _=>Ev.iff (fun _=>?_) (fun _=>Ev.iff (fun _=>?_) (fun _=>.done)))
  · exact Ev.andP fun _=>Ev.andP fun _=>Ev.last (qeh hc.Bg.len)
  · exact Ev.andP fun _=>Ev.andP fun _=>Ev.bind (qkp hal) (Ev.andP fun _=>Ev.bind (qkp hal) (Ev.bind (qkp hal) .done))
  · exact Ev.andP fun _=>Ev.andP fun _=>Ev.and (qkp hal) fun _=>Ev.and (qkp hal) fun _=>Ev.bind (qkp hal) .done
def cellB (c:qn):Bool :=
  nameB c.Ar&&(pinsB c.Ap&&((allN (fun j=>arcI c.Ap (gt c.Aj j)&&newArc c.Aj j) c.Aj.length&&decide (c.Aj.length≤8))&&(inI c.Br 0 100000&&(inI c.Bj 0 100000&&kindB c))))
theorem qoX {c:qn} (hc:qiU c):Ev (fun n=>qhq n c) (cellB c):=by
  simp only [qhq,qmt hc.Ar,qcj,jd]
  unfold cellB
  refine Ev.andP fun _=>Ev.and (qn6 hc.Ap) fun hp=>?_
  obtain ⟨⟨hm,hm5⟩,_⟩:=qfA hp
  exact Ev.and (qog hc.Ap hc.Aj hm) fun _=>Ev.andP fun _=>Ev.andP fun _=>Ev.last (qns hc hm hm5)
theorem qoa {c:qn} (hc:qiU c):Ev (fun n=>qhm n c) (cellB c):=by
  have hal:=hc.Aj.len
  have htl:=hc.Bg.len
  have e:cellB c=((pinsB c.Ap&&(nameB c.Ar&&(decide (c.Aj.length≤8)&&(inI c.Br 0 100000&&inI c.Bj 0 100000))))&&(allN (fun j=>arcS c.Ap (gt c.Aj j)&&newArc c.Aj j) c.Aj.length&&kindB c)):=by
    unfold cellB
    cases hk:kindB c
    · simp
    · cases hp:pinsB c.Ap
      · simp
      · rw [qeQ (fun j _=>by rw [qpK hp (qml hk)])]
        cases nameB c.Ar<;>cases allN (fun j=>arcS c.Ap (gt c.Aj j)&&newArc c.Aj j) c.Aj.length<;>cases decide (c.Aj.length≤8)<;>cases inI c.Br 0 100000<;>cases inI c.Bj 0 100000<;>rfl
  rw [e]
  unfold qhm
  refine Ev.bind (qnS hc.Ap) ?_
  cases hp:pinsB c.Ap
  · exact .done
  · obtain ⟨⟨hm,hm5⟩,_⟩:=qfA hp
    simp only [cond_true,jC,Bool.not_true,cond_false]
    refine Ev.guardB ?_ (fun _=>?_)
    · simp only [qdB,jd,qbA]
      refine Ev.orB (qjh hc.Ar) fun _=>?_
      rw [show decide ((c.Aj.length:Int) > 8) = !decide (c.Aj.length≤8) by rw [ji];simp;omega,qbA]
      exact Ev.orBP fun _=>Ev.orBP fun _=>.done
    · have hL2:∀ j,j<c.Aj.length→Ev (fun n=>qbQ c (j:Int) (gt c.Aj j) n 0) (bif newArc c.Aj j then .nxt (j:Int) else .ret false):=by
        intro j hj
        refine qcY ?_ (fun i hi X hX=>Ev.succ ?_)
        · exact Ev.succ (by simp only [qbQ,qj (je _),cond_false];exact .done)
        · simp only [qbQ,qi hi,cond_true,qM (show i<c.Aj.length by omega),jd,wS i]
          unfold sameArc
          cases ((gt c.Aj i).Av==(gt c.Aj j).Av)
          · exact hX
          · cases ((gt c.Aj i).Bb==(gt c.Aj j).Bb)
            · exact hX
            · cases ((gt c.Aj i).To==(gt c.Aj j).To)
              · exact hX
              · exact .done
      have hL1:Ev (fun n=>qc7 c n 0) (bif allN (fun j=>arcS c.Ap (gt c.Aj j)&&newArc c.Aj j) c.Aj.length then .nxt (c.Aj.length:Int) else .ret false):=by
        refine qcY ?_ (fun j hj X hX=>Ev.succ ?_)
        · exact Ev.succ (by simp only [qc7,qj (je _),cond_false];exact .done)
        · simp only [qc7,qi hj,cond_true,qM hj,jd,wS j]
          refine Ev.chk (qpi hc.Ap (qio hc.Aj hj) hm) fun _=>Ev.bind (hL2 j hj) ?_
          cases newArc c.Aj j
          · exact .done
          · exact hX
      have hL3:Ev (fun n=>qc5 c n 0) (bif (c.Bg.all fun x=>inI x 0 1) then .nxt (c.Bg.length:Int) else .ret false) :=
        qjN (fun n=>by simp only [qc5,qj (je _),cond_false]) (fun j hj X hX=>by
          simp only [qc5,qi hj,cond_true,qgk hj,jd,qdB,wS j,qbA]
          exact Ev.okP1 fun _=>hX)
      refine Ev.bind hL1 ?_
      cases hA:allN (fun j=>arcS c.Ap (gt c.Aj j)&&newArc c.Aj j) c.Aj.length
      · exact .done
      · have hk:∀ j,j<c.Aj.length→1≤(gt c.Aj j).Av∧(gt c.Aj j).Av≤5:=fun j hj=>by
          have:=qag.1 hA j hj
          rw [jf] at this
          exact qmo this.1
        simp only [cond_true,jC]
        refine Ev.bind (qm7 hc.Aj hk) ?_
        simp only [(qno hm hm5).2,jd,
          show idx (vecC (fun k=>kindN c.Aj k c.Aj.length) 6) (1:Int)=some ((kindN c.Aj 1 c.Aj.length:Nat):Int) from qg4 (k:=1) (by omega),
          show idx (vecC (fun k=>kindN c.Aj k c.Aj.length) 6) (2:Int)=some ((kindN c.Aj 2 c.Aj.length:Nat):Int) from qg4 (k:=2) (by omega),
          show idx (vecC (fun k=>kindN c.Aj k c.Aj.length) 6) (3:Int)=some ((kindN c.Aj 3 c.Aj.length:Nat):Int) from qg4 (k:=3) (by omega),qmk,qn9]
        unfold kindB
        refine Ev.iff (fun _=>?_) (fun _=>Ev.iff (fun _=>?_) (fun _=>Ev.iff (fun _=>?_) (fun _=>.done)))
        · refine Ev.bind hL3 ?_
          cases (c.Bg.all fun x=>inI x 0 1)
          · exact Ev.now (by simp)
          · exact (Ev.andP (fun _=>.done)).cast (by rw [Bool.and_true])
        · refine (Ev.andP fun _=>Ev.andP fun _=>Ev.andP fun _=>.done).cast ?_
          cases (((clkN c.Ap c.Ap.length:Nat):Int)==1)<;>cases ((c.Bg.length:Int)==0)<;>cases hasB c.Aj ((1:Nat):Int)<;>cases hasB c.Aj ((2:Nat):Int)<;>cases hasB c.Aj ((3:Nat):Int)<;>rfl
        · refine (Ev.andP fun _=>Ev.andP fun _=>Ev.andP fun _=>Ev.andP fun _=>.done).cast ?_
          cases (((clkN c.Ap c.Ap.length:Nat):Int)==1)<;>cases ((c.Bg.length:Int)==0)<;>cases hasB c.Aj ((1:Nat):Int)<;>cases hasB c.Aj ((2:Nat):Int)<;>cases hasB c.Aj ((3:Nat):Int)<;>rfl
def libB (l:ql):Bool:=l.Ak.all cellB&&(decide (l.Ak.length≤8)&&namesB (l.Ak.map qn.Ar))
theorem qmw {l:ql} (h:qeS l):Ev (fun n=>qfs n l) (libB l):=by
  have hl:=h.Ak.len
  have hL:Ev (fun n=>qbd l n ([]:List ByteArray) 0) (bif allN (fun j=>cellB (gt l.Ak j)) l.Ak.length then .nxt (l.Ak.map qn.Ar,(l.Ak.length:Int)) else .ret false):=by
    refine loopN (Lf:=qbd l) (S:=fun j=>(l.Ak.take j).map qn.Ar) (fun j=>cellB (gt l.Ak j)) (fun n=>?_) (fun j hj hp X hX=>?_)
    · simp only [qbd,qj (je _),cond_false,jK]
    · simp only [qbd,qi hj,cond_true,qM hj,jd,qhJ hj hl,qdn (g:=qn.Ar) hj,wS j]
      exact Ev.chk1 (qoX (qio h.Ak hj)) hX
  unfold qfs libB
  rw [qgj]
  refine Ev.bind hL ?_
  cases allN (fun j=>cellB (gt l.Ak j)) l.Ak.length
  · exact .done
  · simp only [cond_true,jC,show decide ((l.Ak.length:Int)≤8)=decide (l.Ak.length≤8) from qiY (k:=8)]
    exact Ev.andP fun _=>Ev.last (qgg (qi0 h.Ak (fun x hx=>hx.Ar)))
end Go.Fw


namespace Go.Fw
open Go
set_option maxRecDepth 100000
theorem qnY {c:qn} (h:cellB c=true):nameB c.Ar=true:=by
 unfold cellB at h;rw [jf] at h;exact h.1
theorem qjn {c:qn} (h:cellB c=true):pinsB c.Ap=true:=by
 unfold cellB at h;simp only [jf] at h;exact h.2.1
theorem qlS {l:ql} (h:qeS l):Ev (fun n=>qft n l) (libB l):=by
 have hl:=h.Ak.len
 have hL2:∀ j,j<l.Ak.length→Ev (fun n=>qbW l (j:Int) n 0) (bif allN (neB (l.Ak.map qn.Ar) j) j then .nxt (j:Int) else .ret false):=by
  intro j hj
  refine qcY ?_ (fun i hi X hX=>Ev.succ ?_)
  ·exact Ev.succ (by simp only [qbW,qj (je _),cond_false];exact .done)
  ·simp only [qbW,qi hi,cond_true,qM (show i<l.Ak.length by omega),qM hj,jd,qeH,wS i]
   unfold neB
   rw [qgL (g:=qn.Ar) (show i<l.Ak.length by omega),qgL (g:=qn.Ar) hj]
   exact Ev.chkP1 (fun _=>hX)
 have hL1:Ev (fun n=>qbR l n 0) (bif allN (fun j=>cellB (gt l.Ak j)&&allN (neB (l.Ak.map qn.Ar) j) j) l.Ak.length then .nxt (l.Ak.length:Int) else .ret false):=by
  refine qcY ?_ (fun j hj X hX=>Ev.succ ?_)
  ·exact Ev.succ (by simp only [qbR,qj (je _),cond_false];exact .done)
  ·simp only [qbR,qi hj,cond_true,qM hj,jd,wS j]
   refine Ev.chk (qoa (qio h.Ak hj)) fun _=>Ev.bind (hL2 j hj) ?_
   cases allN (neB (l.Ak.map qn.Ar) j) j
   ·exact .done
   ·exact hX
 have e:libB l=(allN (fun j=>cellB (gt l.Ak j)&&allN (neB (l.Ak.map qn.Ar) j) j) l.Ak.length&&decide (l.Ak.length≤8)):=by
  unfold libB namesB
  rw [qgj,jG,Bool.and_comm (decide (l.Ak.length≤8)),←Bool.and_assoc,←qiI]
  congr 1
  refine qeQ (fun j hj=>?_)
  rw [qgL (g:=qn.Ar) hj]
  cases hc:cellB (gt l.Ak j)
  ·rfl
  ·rw [qnY hc];rfl
 rw [e]
 unfold qft
 refine Ev.bind hL1 ?_
 cases allN (fun j=>cellB (gt l.Ak j)&&allN (neB (l.Ak.map qn.Ar) j) j) l.Ak.length
 ·exact .done
 ·refine Ev.now ?_
  show some (decide ((l.Ak.length:Int)≤((8:Nat):Int)))=some (true&&decide (l.Ak.length≤8))
  rw [qiY,jC]
theorem qhG {c c':Nat→Nat} {m:Nat} {x:Int} (h0:0≤x) (h1:x<m) (hc:c x.toNat<9223372036854775807) (he:∀ k,k<m→c' k=c k+(bif x==(k:Int) then 1 else 0)) :
  idx (vecC c m) x=some (c x.toNat:Int)∧setS (vecC c m) x (W64 ((c x.toNat:Int)+1))=vecC c' m:=by
 have ex:x=(x.toNat:Int):=qii h0
 have e1:=qg4 (c:=c) (m:=m) (k:=x.toNat) (by omega)
 have e2:=qmi (c:=c) (m:=m) (k:=x.toNat) hc
 rw [←ex] at e1 e2
 refine ⟨e1,e2.trans (qg2 (fun k hk=>?_))⟩
 rw [he k hk]
 congr 2
 rw [ji];simp;omega
def netB (d:qb) (x:Int):Bool:=inI x 0 ((d.Ah.length:Int)-1)
theorem qjJ {n:Nat} {d:qb} {x:Int} (hl:d.Ah.length≤1048576):qbj n d x=some (netB d x):=by
 simp only [qbj,qeO,jd,qcj,qdJ (show d.Ah.length≤9223372036854775807 by omega)];rfl
theorem qiR {n:Nat} {d:qb} {x:Int} (hl:d.Ah.length≤1048576):qX n x 0 (W64 ((d.Ah.length:Int)-1))=some (netB d x):=by
 rw [qdB,qdJ (show d.Ah.length≤9223372036854775807 by omega)];rfl
def hasNamesB (d:qb):Bool:=(decide (d.Aa.length≤14)&&(decide (d.Ah.length≤30)&&decide (d.Af.length≤8)))&&(namesB (d.Aa.map qe.Ar)&&(namesB d.Ah&&namesB (d.Af.map qO.Ar)))
theorem qnK {d:qb} (h:qgO d):Ev (fun n=>qcL n d) (hasNamesB d):=by
 have hli:=h.Aa.len
 have hlp:=h.Af.len
 have hL1:Ev (fun n=>qaz d n ([]:List ByteArray) 0) (d.Aa.map qe.Ar,(d.Aa.length:Int)):=by
  refine loopF (Lf:=qaz d) (S:=fun j=>(d.Aa.take j).map qe.Ar) (len:=d.Aa.length) (fun n=>?_) (fun j hj X hX=>?_)
  ·simp only [qaz,qj (je _),cond_false,jK]
  ·simpa only [qaz,qi hj,cond_true,qM hj,jd,qhJ hj hli,qdn (g:=qe.Ar) hj,wS j] using hX
 have hL2:Ev (fun n=>qat d n ([]:List ByteArray) 0) (d.Af.map qO.Ar,(d.Af.length:Int)):=by
  refine loopF (Lf:=qat d) (S:=fun j=>(d.Af.take j).map qO.Ar) (len:=d.Af.length) (fun n=>?_) (fun j hj X hX=>?_)
  ·simp only [qat,qj (je _),cond_false,jK]
  ·simpa only [qat,qi hj,cond_true,qM hj,jd,qhJ hj hlp,qdn (g:=qO.Ar) hj,wS j] using hX
 unfold qcL hasNamesB
 refine Ev.bind hL1 (Ev.bind hL2 ?_)
 simp only [jG]
 rw [show decide ((d.Aa.length:Int)≤14)=decide (d.Aa.length≤14) from qiY (k:=14),show decide ((d.Ah.length:Int)≤30)=decide (d.Ah.length≤30) from qiY (k:=30),show decide ((d.Af.length:Int)≤8)=decide (d.Af.length≤8) from qiY (k:=8)]
 rw [Bool.and_assoc,Bool.and_assoc]
 exact Ev.andP fun _=>Ev.andP fun _=>Ev.andP fun _=>Ev.and (qgg (qi0 h.Aa (fun x hx=>hx.Ar))) fun _=>Ev.and (qgg h.Ah) fun _=>Ev.last (qgg (qi0 h.Af (fun x hx=>hx.Ar)))
def instB (l:ql) (d:qb) (x:qe):Bool:=inI x.Bl 0 ((l.Ak.length:Int)-1)&&(((x.Ah.length:Int)==((gt l.Ak x.Bl.toNat).Ap.length:Int))&&x.Ah.all (netB d))
theorem ql1 {d:qb} {l:ql} {x:qe} (hn:d.Ah.length≤1048576) (hc:l.Ak.length≤1048576) (hx:x.Ah.length≤1048576):Ev (fun n=>qb9 n d l x) (instB l d x):=by
 simp only [qb9,qdR,jd,qcj,qdJ (show l.Ak.length≤9223372036854775807 by omega)]
 unfold instB
 refine Ev.andP fun hI=>?_
 rw [qby] at hI
 rw [qgR hI.1 (by omega)]
 simp only [jd]
 refine Ev.andP fun _=>Ev.bind (b:=x.Ah.any fun y=>!netB d y) ?_ (Ev.now (by rw [qkZ]))
 unfold qac
 exact Ev.bind (b:=ixL (fun y=>!netB d y) x.Ah) (qeD (fin:=(x.Ah.length:Int)) (Lf:=qw x.Ah d) (pf:=fun n y=>qbJ n y d) (fun y _=>⟨0,fun n _=>by simp only [qbJ,qjJ hn,jd]⟩)
   (fun n=>by simp only [qw,qj (je _),cond_false])
   (fun n j y hx=>by
    have hj:=(List.getElem?_eq_some_iff.1 hx).1
    simp only [qw,qi hj,cond_true,qU hx,jd,wS j])
   (fun n=>by unfold qah;congr 1;funext o;cases o<;>rfl)) (Ev.now (by rw [qjl]))
def portB (d:qb) (p:qO):Bool:=inI p.Bm 1 2&&netB d p.Bo
theorem qrD {x:Int}:inI x 1 2=((x==1) || (x==2)):=by
 unfold inI;rw [ji];simp;omega
def lastN (x:qe):Int:=at0 x.Ah (x.Ah.length-1)
theorem qnj {x:qe} (h1:1≤x.Ah.length) (h2:x.Ah.length≤1048576):idx x.Ah (W64 ((x.Ah.length:Int)-1))=some (lastN x):=by
 rw [qdJ (by omega),show ((x.Ah.length:Int)-1)=((x.Ah.length-1:Nat):Int) by omega,qbi (by omega)];rfl
theorem qoY {d:qb} {x:qe} (h1:1≤x.Ah.length) (h:x.Ah.all (netB d)=true):0≤lastN x∧lastN x<d.Ah.length:=by
 rw [qf5 (d:=0),qag] at h
 have:=h (x.Ah.length-1) (by omega)
 unfold netB at this
 rw [qby] at this
 unfold lastN at0
 omega
theorem qlH {l:ql} {d:qb} {x:qe} (hl:libB l=true) (h:instB l d x=true):1≤x.Ah.length∧0≤lastN x∧lastN x<d.Ah.length:=by
 unfold instB at h
 simp only [jf,qby,beq_iff_eq] at h
 obtain ⟨h1,h2,h3⟩:=h
 unfold libB at hl
 simp only [jf] at hl
 have hc:=hl.1
 rw [qgj,qag] at hc
 have:=qfA (qjn (hc x.Bl.toNat (by omega)))
 have h4:1≤x.Ah.length:=by omega
 exact ⟨h4,qoY h4 h3⟩
def drvI (d:qb) (k j:Nat):Nat:=cntP (fun i=>lastN (gt d.Aa i)==(k:Int)) j
def drvP (d:qb) (k j:Nat):Nat:=cntP (fun i=>((gt d.Af i).Bm==1)&&((gt d.Af i).Bo==(k:Int))) j
def drvB (d:qb):Bool:=allN (fun k=>((drvI d k d.Aa.length+drvP d k d.Af.length:Nat):Int)==1) d.Ah.length
def designB (l:ql) (d:qb):Bool:=(libB l&&hasNamesB d)&&(d.Aa.all (instB l d)&&(d.Af.all (portB d)&&drvB d))
theorem qj5 {d:qb} {k j:Nat}:drvI d k (j+1)=drvI d k j+(bif lastN (gt d.Aa j)==(k:Int) then 1 else 0):=rfl
theorem qi1 {d:qb} {k j:Nat}:drvP d k (j+1)=drvP d k j+(bif ((gt d.Af j).Bm==1)&&((gt d.Af j).Bo==(k:Int)) then 1 else 0):=rfl
theorem qm6 {l:ql} {d:qb} (h:qeS l) (hd:qgO d):Ev (fun n=>qfJ n l d) (designB l d):=by
 have hli:=hd.Aa.len
 have hlp:=hd.Af.len
 have hln:=hd.Ah.len
 have hlc:=h.Ak.len
 unfold qfJ designB
 refine Ev.guardB (Ev.or (qmw h) fun _=>Ev.neg (qnK hd)) fun hb=>?_
 rw [jf] at hb
 rw [qiZ (m:=d.Ah.length) (by omega)]
 simp only [jd]
 have hL1:Ev (fun n=>qbE l d n (vecC (fun _=>0) d.Ah.length) 0) (bif allN (fun j=>instB l d (gt d.Aa j)) d.Aa.length then .nxt (vecC (fun k=>drvI d k d.Aa.length) d.Ah.length,(d.Aa.length:Int)) else .ret false):=by
  refine loopN (Lf:=qbE l d) (S:=fun j=>vecC (fun k=>drvI d k j) d.Ah.length) (fun j=>instB l d (gt d.Aa j)) (fun n=>?_) (fun j hj hp X hX=>?_)
  ·simp only [qbE,qj (je _),cond_false]
  ·simp only [qbE,qi hj,cond_true,qM hj,jd,wS j]
   have hxl:=(qio hd.Aa hj).Ah.len
   refine Ev.chk1 (ql1 hln hlc hxl) fun hi=>?_
   obtain ⟨h1,h2,h3⟩:=qlH hb.1 hi
   have hc:drvI d (lastN (gt d.Aa j)).toNat j≤j:=qdW
   obtain ⟨e1,e2⟩:=qhG (c:=fun k=>drvI d k j) (c':=fun k=>drvI d k (j+1)) h2 h3 (by show drvI _ _ _<_;omega) (fun k _=>qj5)
   simp only [qnj h1 hxl,jd,e1,e2]
   exact hX hi
 have hL2:Ev (fun n=>qa9 d n (vecC (fun k=>drvI d k d.Aa.length) d.Ah.length) 0) (bif allN (fun j=>portB d (gt d.Af j)) d.Af.length then .nxt (vecC (fun k=>drvI d k d.Aa.length+drvP d k d.Af.length) d.Ah.length,(d.Af.length:Int)) else .ret false):=by
  refine loopN (Lf:=qa9 d) (S:=fun j=>vecC (fun k=>drvI d k d.Aa.length+drvP d k j) d.Ah.length) (fun j=>portB d (gt d.Af j)) (fun n=>?_) (fun j hj hp X hX=>?_)
  ·simp only [qa9,qj (je _),cond_false]
  ·simp only [qa9,qi hj,cond_true,qM hj,jd,qjJ hln,bne,wS j]
   refine Ev.chkT1 ?_ fun hi=>?_
   ·unfold portB
    rw [qrD]
    cases ((gt d.Af j).Bm==1)<;>cases ((gt d.Af j).Bm==2)<;>exact .done
   ·have hX:=hX hi
    unfold portB netB at hi
    simp only [jf,qby] at hi
    have hc1:drvI d (gt d.Af j).Bo.toNat d.Aa.length≤d.Aa.length:=qdW
    have hc2:drvP d (gt d.Af j).Bo.toNat j≤j:=qdW
    cases h1:((gt d.Af j).Bm==1)
    ·have:vecC (fun k=>drvI d k d.Aa.length+drvP d k (j+1)) d.Ah.length=vecC (fun k=>drvI d k d.Aa.length+drvP d k j) d.Ah.length:=by
      refine qg2 (fun k _=>?_)
      rw [qi1,h1];rfl
     rw [this] at hX
     exact hX
    ·obtain ⟨e1,e2⟩:=qhG (c:=fun k=>drvI d k d.Aa.length+drvP d k j) (c':=fun k=>drvI d k d.Aa.length+drvP d k (j+1)) (x:=(gt d.Af j).Bo) (m:=d.Ah.length) hi.2.1 (by omega) (by show drvI _ _ _+drvP _ _ _<_;omega) (fun k _=>by rw [qi1,h1,jC];omega)
     simp only [cond_true,jd,e1,e2]
     exact hX
 rw [qgj,qgj]
 refine Ev.bind hL1 ?_
 cases allN (fun j=>instB l d (gt d.Aa j)) d.Aa.length
 ·exact .done
 ·refine Ev.bind hL2 ?_
  cases allN (fun j=>portB d (gt d.Af j)) d.Af.length
  ·exact .done
  ·simp only [cond_true,jC]
   unfold qaO
   refine Ev.bind (b:=(vecC (fun k=>drvI d k d.Aa.length+drvP d k d.Af.length) d.Ah.length).any fun x=>!(x==1)) (Ev.bind (b:=ixL (fun x=>!(x==1)) (vecC (fun k=>drvI d k d.Aa.length+drvP d k d.Af.length) d.Ah.length)) (qeD (fin:=(((vecC (fun k=>drvI d k d.Aa.length+drvP d k d.Af.length) d.Ah.length).length:Nat):Int)) (Lf:=qK (vecC (fun k=>drvI d k d.Aa.length+drvP d k d.Af.length) d.Ah.length)) (pf:=fun n y=>qgl n y) (fun y _=>.done)
    (fun n=>by simp only [qK,qj (je _),cond_false])
    (fun n j y hx=>by
     have hj:=(List.getElem?_eq_some_iff.1 hx).1
     have:j<d.Ah.length:=by rw [qiu] at hj;exact hj
     simp only [qK,qi hj,cond_true,qU hx,jd,wS j])
    (fun n=>by unfold qaX;congr 1;funext o;cases o<;>rfl)) (Ev.now (by rw [qjl]))) (Ev.now ?_)
   rw [qkZ,qf5 (d:=0),qiu]
   unfold drvB
   congr 1
   exact qeQ (fun k hk=>by
    have:=qnl (c:=fun k=>drvI d k d.Aa.length+drvP d k d.Af.length) hk
    unfold at0 at this
    rw [this])
theorem qnG {l:ql} {d:qb} (h:qeS l) (hd:qgO d):Ev (fun n=>qfO n l d) (d.Aa.all (instB l d)&&d.Af.all (portB d)):=by
 have hli:=hd.Aa.len
 have hlp:=hd.Af.len
 have hln:=hd.Ah.len
 have hlc:=h.Ak.len
 have hL2:∀ x:qe,x.Ah.length≤1048576→Ev (fun n=>qch d x n 0) (bif x.Ah.all (netB d) then .nxt (x.Ah.length:Int) else .ret false):=fun x hx =>
  qjN (fun n=>by simp only [qch,qj (je _),cond_false]) (fun j hj X hX=>by
   simp only [qch,qi hj,cond_true,qgk hj,jd,qiR hln,wS j,qbA]
   exact Ev.okP1 fun _=>hX)
 have hL1:Ev (fun n=>qcf l d n 0) (bif allN (fun j=>instB l d (gt d.Aa j)) d.Aa.length then .nxt (d.Aa.length:Int) else .ret false):=by
  refine qcY ?_ (fun j hj X hX=>Ev.succ ?_)
  ·exact Ev.succ (by simp only [qcf,qj (je _),cond_false];exact .done)
  ·simp only [qcf,qi hj,cond_true,qM hj,jd,qdB,qdJ (show l.Ak.length≤9223372036854775807 by omega),wS j,bne]
   have hxl:=(qio hd.Aa hj).Ah.len
   unfold instB
   rw [←Bool.and_assoc]
   refine Ev.chkT ?_ fun _=>Ev.bind (hL2 _ hxl) ?_
   ·simp only [qbA]
    refine Ev.orBP fun hI=>?_
    rw [qby] at hI
    rw [qgR hI.1 (by omega)]
    exact .done
   ·cases (gt d.Aa j).Ah.all (netB d)
    ·exact .done
    ·exact hX
 have hL3:Ev (fun n=>qcl d n 0) (bif allN (fun j=>portB d (gt d.Af j)) d.Af.length then .nxt (d.Af.length:Int) else .ret false):=by
  refine qcY ?_ (fun j hj X hX=>Ev.succ ?_)
  ·exact Ev.succ (by simp only [qcl,qj (je _),cond_false];exact .done)
  ·simp only [qcl,qi hj,cond_true,qM hj,jd,qiR hln,wS j]
   simp only [qdB,jd,qbA]
   unfold portB
   exact Ev.okP fun _=>Ev.okP1 fun _=>hX
 unfold qfO
 rw [qgj,qgj]
 refine Ev.bind hL1 ?_
 cases allN (fun j=>instB l d (gt d.Aa j)) d.Aa.length
 ·exact .done
 ·refine Ev.bind hL3 ?_
  cases allN (fun j=>portB d (gt d.Af j)) d.Af.length<;>exact .done
theorem qmK {l:ql} {d:qb} (h:qeS l) (hd:qgO d):Ev (fun n=>qfT n l d) (designB l d):=by
 have hli:=hd.Aa.len
 have hlp:=hd.Af.len
 have hln:=hd.Ah.len
 have hlc:=h.Ak.len
 have e:designB l d=((libB l&&(decide (d.Aa.length≤14)&&(decide (d.Ah.length≤30)&&(decide (d.Af.length≤8)&&(d.Aa.all (instB l d)&&d.Af.all (portB d))))))&&((namesB (d.Aa.map qe.Ar)&&(namesB (d.Af.map qO.Ar)&&namesB d.Ah))&&drvB d)):=by
  unfold designB hasNamesB
  generalize libB l=a1
  generalize decide (d.Aa.length≤14)=a2
  generalize decide (d.Ah.length≤30)=a3
  generalize decide (d.Af.length≤8)=a4
  generalize d.Aa.all (instB l d)=a5
  generalize d.Af.all (portB d)=a6
  generalize namesB (d.Aa.map qe.Ar)=a7
  generalize namesB (d.Af.map qO.Ar)=a8
  generalize namesB d.Ah=a9
  generalize drvB d=a10
  rw [ji]
  simp only [jf]
  constructor
  ·rintro ⟨⟨h1,⟨h2,h3,h4⟩,h7,h9,h8⟩,h5,h6,h10⟩
   exact ⟨⟨h1,h2,h3,h4,h5,h6⟩,⟨h7,h8,h9⟩,h10⟩
  ·rintro ⟨⟨h1,h2,h3,h4,h5,h6⟩,⟨h7,h8,h9⟩,h10⟩
   exact ⟨⟨h1,⟨h2,h3,h4⟩,h7,h9,h8⟩,h5,h6,h10⟩
 rw [e]
 unfold qfT
 refine Ev.guardB ?_ fun hb=>?_
 ·refine Ev.or (qlS h) fun _=>?_
  rw [show decide ((d.Aa.length:Int) > 14) = !decide (d.Aa.length≤14) by rw [ji];simp;omega,show decide ((d.Ah.length:Int) > 30) = !decide (d.Ah.length≤30) by rw [ji];simp;omega,show decide ((d.Af.length:Int) > 8) = !decide (d.Af.length≤8) by rw [ji];simp;omega]
  simp only [qbA]
  exact Ev.orBP fun _=>Ev.orBP fun _=>Ev.orBP fun _=>Ev.neg (qnG h hd)
 ·simp only [jf] at hb
  obtain ⟨hlib,_,_,_,hI,hP⟩:=hb
  rw [qgj,qag] at hI hP
  have hL1:Ev (fun n=>qbF d n ([]:List ByteArray) 0) (d.Aa.map qe.Ar,(d.Aa.length:Int)):=by
   refine loopF (Lf:=qbF d) (S:=fun j=>(d.Aa.take j).map qe.Ar) (len:=d.Aa.length) (fun n=>?_) (fun j hj X hX=>?_)
   ·simp only [qbF,qj (je _),cond_false,jK]
   ·simpa only [qbF,qi hj,cond_true,qM hj,jd,qhJ hj hli,qdn (g:=qe.Ar) hj,wS j] using hX
  have hL2:Ev (fun n=>qbB d n ([]:List ByteArray) 0) (d.Af.map qO.Ar,(d.Af.length:Int)):=by
   refine loopF (Lf:=qbB d) (S:=fun j=>(d.Af.take j).map qO.Ar) (len:=d.Af.length) (fun n=>?_) (fun j hj X hX=>?_)
   ·simp only [qbB,qj (je _),cond_false,jK]
   ·simpa only [qbB,qi hj,cond_true,qM hj,jd,qhJ hj hlp,qdn (g:=qO.Ar) hj,wS j] using hX
  have hL3:Ev (fun n=>qbC d n (vecC (fun _=>0) d.Ah.length) 0) (vecC (fun k=>drvI d k d.Aa.length) d.Ah.length,(d.Aa.length:Int)):=by
   refine loopF (Lf:=qbC d) (S:=fun j=>vecC (fun k=>drvI d k j) d.Ah.length) (len:=d.Aa.length) (fun n=>?_) (fun j hj X hX=>?_)
   ·simp only [qbC,qj (je _),cond_false]
   ·have hxl:=(qio hd.Aa hj).Ah.len
    obtain ⟨h1,h2,h3⟩:=qlH hlib (hI j hj)
    have hc:drvI d (lastN (gt d.Aa j)).toNat j≤j:=qdW
    obtain ⟨e1,e2⟩:=qhG (c:=fun k=>drvI d k j) (c':=fun k=>drvI d k (j+1)) h2 h3 (by show drvI _ _ _<_;omega) (fun k _=>qj5)
    simpa only [qbC,qi hj,cond_true,qM hj,jd,wS j,qnj h1 hxl,e1,e2] using hX
  have hL4:Ev (fun n=>qa8 d n (vecC (fun k=>drvI d k d.Aa.length) d.Ah.length) 0) (vecC (fun k=>drvI d k d.Aa.length+drvP d k d.Af.length) d.Ah.length,(d.Af.length:Int)):=by
   refine loopF (Lf:=qa8 d) (S:=fun j=>vecC (fun k=>drvI d k d.Aa.length+drvP d k j) d.Ah.length) (len:=d.Af.length) (fun n=>?_) (fun j hj X hX=>?_)
   ·simp only [qa8,qj (je _),cond_false]
   ·have hi:=hP j hj
    unfold portB netB at hi
    simp only [jf,qby] at hi
    have hc1:drvI d (gt d.Af j).Bo.toNat d.Aa.length≤d.Aa.length:=qdW
    have hc2:drvP d (gt d.Af j).Bo.toNat j≤j:=qdW
    simp only [qa8,qi hj,cond_true,qM hj,jd,wS j]
    cases h1:((gt d.Af j).Bm==1)
    ·have:vecC (fun k=>drvI d k d.Aa.length+drvP d k (j+1)) d.Ah.length=vecC (fun k=>drvI d k d.Aa.length+drvP d k j) d.Ah.length:=by
      refine qg2 (fun k _=>?_)
      rw [qi1,h1];rfl
     rw [this] at hX
     exact hX
    ·obtain ⟨e1,e2⟩:=qhG (c:=fun k=>drvI d k d.Aa.length+drvP d k j) (c':=fun k=>drvI d k d.Aa.length+drvP d k (j+1)) (x:=(gt d.Af j).Bo) (m:=d.Ah.length) hi.2.1 (by omega) (by show drvI _ _ _+drvP _ _ _<_;omega) (fun k _=>by rw [qi1,h1,jC];omega)
     simp only [cond_true,jd,e1,e2]
     exact hX
  have hL5:Ev (fun n=>qcg (vecC (fun _=>0) d.Ah.length) (vecC (fun k=>drvI d k d.Aa.length+drvP d k d.Af.length) d.Ah.length) n 0) (bif drvB d then .nxt (d.Ah.length:Int) else .ret false):=by
   refine qcY ?_ (fun j hj X hX=>Ev.succ ?_)
   ·exact Ev.succ (by simp only [qcg,qiu,qj (je _),cond_false];exact .done)
   ·simp only [qcg,qiu,qi hj,cond_true,qg4 hj,jd,bne,qbA,wS j]
    exact Ev.okP1 fun _=>hX
  refine Ev.bind hL1 (Ev.bind hL2 ?_)
  refine Ev.guardB (Ev.or (qim (qi0 hd.Aa (fun x hx=>hx.Ar))) fun _=>Ev.or (qim (qi0 hd.Af (fun x hx=>hx.Ar))) fun _=>Ev.neg (qim hd.Ah)) fun _=>?_
  rw [qiZ (m:=d.Ah.length) (by omega)]
  simp only [jd]
  refine Ev.bind hL3 (Ev.bind hL4 (Ev.bind hL5 ?_))
  cases drvB d<;>exact .done
end Go.Fw


namespace Go.Fw
open Go
set_option maxRecDepth 100000
theorem qri {m k:Nat}:decide ((m:Int)<(k:Int)) = !decide (k≤m):=by rw [ji];simp
theorem qqK {m k:Nat}:decide ((m:Int) > (k:Int)) = !decide (m≤k):=by rw [ji];simp
def treeB (w:qC) (j:Nat):Bool:=bif decide (j=0) then (at0 w.Ai j==-1)&&(at0 w.Bn j==0) else inI (at0 w.Ai j) 0 ((j:Int)-1)
def wireB (w:qC) (s:Int):Bool :=
 lenB w.Ai 1 8&&(((w.Bn.length:Int)==(w.Ai.length:Int))&&(((w.Bk.length:Int)==(w.Ai.length:Int))&&(allN (treeB w) w.Ai.length &&
  ((w.Bn.all fun x=>inI x 0 1000)&&((w.Bk.all fun x=>inI x 0 500)&&(((w.Bc.length:Int)==s)&&(w.Bc.all fun x=>inI x 0 ((w.Ai.length:Int)-1))))))))
theorem qoV {w:qC} (hl:w.Ai.length≤1048576) (hr:((w.Bn.length:Int)==(w.Ai.length:Int))=true):Ev (fun n=>qeg n w) (allN (treeB w) w.Ai.length):=by
 rw [beq_iff_eq] at hr
 have hL:Ev (fun n=>qap w n 0) (bif allN (treeB w) w.Ai.length then .nxt (w.Ai.length:Int) else .ret false):=by
  refine qcY ?_ (fun j hj X hX=>Ev.succ ?_)
  ·exact Ev.succ (by simp only [qap,qj (je _),cond_false];exact .done)
  ·simp only [qap,qi hj,cond_true,qbi hj,jd,qcj,wS j,bne,qbA]
   unfold treeB
   by_cases h0:j=0
   ·subst h0
    rw [show idx w.Bn (0:Int)=some (at0 w.Bn 0) from qbi (j:=0) (by omega)]
    simp only [jd]
    refine Ev.tt (by simp) (Ev.okP fun _=>Ev.okP1 fun _=>Ev.ff (by simp) hX)
   ·have e1:decide (j=0)=false:=by simp;omega
    have e2:((j:Int)==0)=false:=by simp;omega
    have e3:decide ((j:Int) > 0)=true:=by simp;omega
    rw [e1,e2,e3,qdJ (show j≤9223372036854775807 by omega)]
    simp only [cond_false,cond_true]
    exact Ev.okP1 fun _=>hX
 unfold qeg
 refine Ev.bind hL ?_
 cases allN (treeB w) w.Ai.length<;>exact .done
theorem qpn {w:qC} {s:Int} (h:qjB w):Ev (fun n=>qht n w s) (wireB w s):=by
 have hl:=h.Ai.len
 simp only [qht,qaA,jd,qcj,qdJ (show w.Ai.length≤9223372036854775807 by omega)]
 unfold wireB
 rw [show inI (w.Ai.length:Int) 1 8=lenB w.Ai 1 8 from qmV (lo:=1) (hi:=8)]
 exact Ev.andP fun _=>Ev.andP fun hr=>Ev.andP fun _=>Ev.and (qoV hl hr) fun _=>Ev.and (qeh h.Bn.len) fun _=>Ev.and (qeh h.Bk.len) fun _=>Ev.andP fun _=>Ev.last (qeh h.Bc.len)
theorem qn1 {w:qC} {s:Int} (h:qjB w):Ev (fun n=>qhk n w s) (wireB w s):=by
 have hl:=h.Ai.len
 have hsl:=h.Bc.len
 have e:wireB w s=((decide (1≤w.Ai.length)&&(decide (w.Ai.length≤8)&&(((w.Bn.length:Int)==(w.Ai.length:Int))&&(((w.Bk.length:Int)==(w.Ai.length:Int))&&((w.Bc.length:Int)==s)))))&&(allN (fun j=>(inI (at0 w.Bk j) 0 500&&inI (at0 w.Bn j) 0 1000)&&treeB w j) w.Ai.length&&(w.Bc.all fun x=>inI x 0 ((w.Ai.length:Int)-1)))):=by
  unfold wireB lenB
  cases h1:((w.Bn.length:Int)==(w.Ai.length:Int))
  ·simp
  ·cases h2:((w.Bk.length:Int)==(w.Ai.length:Int))
   ·simp
   ·rw [beq_iff_eq] at h1 h2
    rw [qiI,qiI]
    rw [qf5 (p:=fun x=>inI x 0 1000) (d:=0),qf5 (p:=fun x=>inI x 0 500) (d:=0),show w.Bn.length=w.Ai.length by omega,show w.Bk.length=w.Ai.length by omega]
    show _=(_&&((allN (fun j=>inI (w.Bk.getD j 0) 0 500) _&&allN (fun j=>inI (w.Bn.getD j 0) 0 1000) _&&_)&&_))
    generalize allN (fun j=>inI (w.Bk.getD j 0) 0 500) w.Ai.length=a1
    generalize allN (fun j=>inI (w.Bn.getD j 0) 0 1000) w.Ai.length=a2
    generalize allN (fun j=>treeB w j) w.Ai.length=a3
    generalize ((w.Bc.length:Int)==s)=a4
    generalize decide (1≤w.Ai.length)=a5
    generalize decide (w.Ai.length≤8)=a6
    generalize (w.Bc.all fun x=>inI x 0 ((w.Ai.length:Int)-1))=a7
    cases a1<;>cases a2<;>cases a3<;>cases a4<;>cases a5<;>cases a6<;>rfl
 rw [e]
 unfold qhk
 refine Ev.guardB ?_ fun hb=>?_
 ·rw [show decide ((w.Ai.length:Int)<1) = !decide (1≤w.Ai.length) from qri (k:=1),show decide ((w.Ai.length:Int) > 8) = !decide (w.Ai.length≤8) from qqK (k:=8)]
  simp only [bne,qbA]
  exact Ev.orBP fun _=>Ev.orBP fun _=>Ev.orBP fun _=>Ev.orBP fun _=>.done
 ·simp only [jf,beq_iff_eq] at hb
  have hL1:Ev (fun n=>qbe w n 0) (bif allN (fun j=>(inI (at0 w.Bk j) 0 500&&inI (at0 w.Bn j) 0 1000)&&treeB w j) w.Ai.length then .nxt (w.Ai.length:Int) else .ret false):=by
   refine qcY ?_ (fun j hj X hX=>Ev.succ ?_)
   ·exact Ev.succ (by simp only [qbe,qj (je _),cond_false];exact .done)
   ·simp only [qbe,qi hj,cond_true,qbi hj,qbi (show j<w.Bk.length by omega),qbi (show j<w.Bn.length by omega),jd,qdB,wS j,bne,qbA]
    refine Ev.chkT (Ev.orBP fun _=>.done) fun _=>?_
    unfold treeB
    by_cases h0:j=0
    ·subst h0
     refine Ev.tt (by simp) (Ev.okP fun _=>Ev.okP1 fun _=>Ev.ff (by simp) hX)
    ·have e1:decide (j=0)=false:=by simp;omega
     have e2:((j:Int)==0)=false:=by simp;omega
     have e3:decide ((j:Int) > 0)=true:=by simp;omega
     rw [e1,e2,e3,qdJ (show j≤9223372036854775807 by omega)]
     simp only [cond_false,cond_true]
     exact Ev.okP1 fun _=>hX
  have hL2:Ev (fun n=>qc6 w n 0) (bif (w.Bc.all fun x=>inI x 0 ((w.Ai.length:Int)-1)) then .nxt (w.Bc.length:Int) else .ret false) :=
   qjN (fun n=>by simp only [qc6,qj (je _),cond_false]) (fun j hj X hX=>by
    simp only [qc6,qi hj,cond_true,qgk hj,jd,qdB,qdJ (show w.Ai.length≤9223372036854775807 by omega),wS j,qbA]
    exact Ev.okP1 fun _=>hX)
  refine Ev.bind hL1 ?_
  cases allN (fun j=>(inI (at0 w.Bk j) 0 500&&inI (at0 w.Bn j) 0 1000)&&treeB w j) w.Ai.length
  ·exact .done
  ·refine Ev.bind hL2 ?_
   cases (w.Bc.all fun x=>inI x 0 ((w.Ai.length:Int)-1))<;>exact .done
instance:Inhabited Tplace:=⟨⟨0,0,0,false⟩⟩
instance:Inhabited Tl05Place:=⟨⟨0,0,0,false⟩⟩
def toSp (p:Tplace):Tl05Place:=⟨p.instance_,p.pin,p.net,p.drives⟩
def plX (i:Nat) (x:qe) (j:Nat):List Tplace:=(List.range j).map fun (k:Nat)=>⟨(i:Int),(k:Int),at0 x.Ah k,decide (k+1=x.Ah.length)⟩
def plI (d:qb) (j:Nat):List Tplace:=(List.range j).flatMap fun (i:Nat)=>plX i (gt d.Aa i) (gt d.Aa i).Ah.length
def plP (d:qb) (j:Nat):List Tplace:=(List.range j).map fun (i:Nat)=>⟨-1,(i:Int),(gt d.Af i).Bo,(gt d.Af i).Bm==1⟩
def places (d:qb):List Tplace:=plI d d.Aa.length++plP d d.Af.length
theorem qnd {i:Nat} {x:qe} {j:Nat}:plX i x (j+1)=plX i x j++[⟨(i:Int),(j:Int),at0 x.Ah j,decide (j+1=x.Ah.length)⟩]:=by
 unfold plX;rw [List.range_succ,List.map_append];rfl
theorem qiB {d:qb} {j:Nat}:plI d (j+1)=plI d j++plX j (gt d.Aa j) (gt d.Aa j).Ah.length:=by
 unfold plI;rw [List.range_succ,List.flatMap_append];simp
theorem qnt {d:qb} {j:Nat}:plP d (j+1)=plP d j++[⟨-1,(j:Int),(gt d.Af j).Bo,(gt d.Af j).Bm==1⟩]:=by
 unfold plP;rw [List.range_succ,List.map_append];rfl
theorem qk0 {i:Nat} {x:qe} {j:Nat}:(plX i x j).length=j:=by simp [plX]
theorem qk1 {d:qb} {j:Nat}:(plP d j).length=j:=by simp [plP]
structure smallD (d:qb):Prop where
 ni:d.Aa.length≤14
 nn:d.Ah.length≤30
 np:d.Af.length≤8
 nx:∀ i,i<d.Aa.length→2≤(gt d.Aa i).Ah.length∧(gt d.Aa i).Ah.length≤5
theorem qa0 {l:ql} {d:qb} (h:designB l d=true):smallD d:=by
 unfold designB hasNamesB libB at h
 simp only [jf,decide_eq_true_eq] at h
 obtain ⟨⟨⟨hc,_⟩,⟨h1,h2,h3⟩,_⟩,hI,_⟩:=h
 refine ⟨h1,h2,h3,fun i hi=>?_⟩
 rw [qgj,qag] at hI hc
 have:=hI i hi
 unfold instB at this
 simp only [jf,qby,beq_iff_eq] at this
 have h5:=qfA (qjn (hc (gt d.Aa i).Bl.toNat (by omega)))
 omega
theorem qjR {d:qb} (h:smallD d) {j:Nat} (hj:j≤d.Aa.length):(plI d j).length≤5*j:=by
 induction j with
 | zero=>exact je _
 | succ j ih =>
  rw [qiB,jm,qk0]
  have:=ih (by omega)
  have:=h.nx j (by omega)
  omega
theorem qcW {d:qb} (h:smallD d):(places d).length≤78:=by
 unfold places
 rw [jm,qk1]
 have:=qjR h (je _)
 have:=h.ni
 have:=h.np
 omega
theorem qiX {d:qb} (h:smallD d):Ev (fun n=>qa4 n d) (places d):=by
 have h1:=h.ni
 have h2:=h.np
 have hL2:∀ i,i<d.Aa.length→∀ pre:List Tplace,pre.length≤100→Ev (fun n=>qaL (i:Int) (gt d.Aa i) n pre 0) (pre++plX i (gt d.Aa i) (gt d.Aa i).Ah.length,((gt d.Aa i).Ah.length:Int)):=by
  intro i hi pre hp
  have h5:=h.nx i hi
  have:=loopF (Lf:=qaL (i:Int) (gt d.Aa i)) (S:=fun j=>pre++plX i (gt d.Aa i) j) (len:=(gt d.Aa i).Ah.length) (fin:=(pre++plX i (gt d.Aa i) (gt d.Aa i).Ah.length,((gt d.Aa i).Ah.length:Int))) (fun n=>by
    simp only [qaL,qj (je _),cond_false])
   (fun j hj X hX=>by
    have hc:(pre++plX i (gt d.Aa i) j).length+[(⟨(i:Int),(j:Int),at0 (gt d.Aa i).Ah j,decide (j+1=(gt d.Aa i).Ah.length)⟩:Tplace)].length≤2147483648:=by
     rw [jm,qk0];simp;omega
    simp only [qaL,qi hj,cond_true,qbi hj,jd,lastE hj (show (gt d.Aa i).Ah.length≤1048576 by omega),qdq hc,jy,←qnd,wS j]
    exact hX)
  simpa [plX] using this
 have hL1:Ev (fun n=>qaM d n ([]:List Tplace) 0) (plI d d.Aa.length,(d.Aa.length:Int)):=by
  refine loopF (Lf:=qaM d) (S:=fun j=>plI d j) (len:=d.Aa.length) (fun n=>?_) (fun j hj X hX=>?_)
  ·simp only [qaM,qj (je _),cond_false]
  ·simp only [qaM,qi hj,cond_true,qM hj,jd,wS j]
   refine Ev.bind (hL2 j hj _ (by have:=qjR h (Nat.le_of_lt hj);omega)) ?_
   rw [←qiB]
   exact hX
 have hL3:Ev (fun n=>qaK d n (plI d d.Aa.length) 0) (places d,(d.Af.length:Int)):=by
  have:=loopF (Lf:=qaK d) (S:=fun j=>plI d d.Aa.length++plP d j) (len:=d.Af.length) (fin:=(places d,(d.Af.length:Int))) (fun n=>by
    simp only [qaK,qj (je _),cond_false];rfl)
   (fun j hj X hX=>by
    have hc:(plI d d.Aa.length++plP d j).length+[(⟨-1,(j:Int),(gt d.Af j).Bo,(gt d.Af j).Bm==1⟩:Tplace)].length≤2147483648:=by
     rw [jm,qk1];have:=qjR h (je _);simp;omega
    simp only [qaK,qi hj,cond_true,qM hj,jd,qdq hc,jy,←qnt,wS j]
    exact hX)
  simpa [plP] using this
 unfold qa4
 exact Ev.bind hL1 (Ev.bind hL3 .done)
theorem qjm {d:qb} (h:smallD d):Ev (fun n=>qdh n d) ((places d).map toSp):=by
 have h1:=h.ni
 have h2:=h.np
 have hL2:∀ i,i<d.Aa.length→∀ pre:List Tplace,pre.length≤100→Ev (fun n=>qbg (i:Int) (gt d.Aa i) n (pre.map toSp) 0) ((pre++plX i (gt d.Aa i) (gt d.Aa i).Ah.length).map toSp,((gt d.Aa i).Ah.length:Int)):=by
  intro i hi pre hp
  have h5:=h.nx i hi
  have:=loopF (Lf:=qbg (i:Int) (gt d.Aa i)) (S:=fun j=>(pre++plX i (gt d.Aa i) j).map toSp) (len:=(gt d.Aa i).Ah.length) (fin:=((pre++plX i (gt d.Aa i) (gt d.Aa i).Ah.length).map toSp,((gt d.Aa i).Ah.length:Int))) (fun n=>by
    simp only [qbg,qj (je _),cond_false])
   (fun j hj X hX=>by
    have hc:((pre++plX i (gt d.Aa i) j).map toSp).length+[(⟨(i:Int),(j:Int),at0 (gt d.Aa i).Ah j,decide (j+1=(gt d.Aa i).Ah.length)⟩:Tl05Place)].length≤2147483648:=by
     rw [jG,jm,qk0];simp;omega
    simp only [qbg,qi hj,cond_true,qbi hj,jd,lastE hj (show (gt d.Aa i).Ah.length≤1048576 by omega),qdq hc,wS j]
    rw [qnd,←jy,List.map_append] at hX
    exact hX)
  simpa [plX] using this
 have hL1:Ev (fun n=>qbl d n ([]:List Tl05Place) 0) ((plI d d.Aa.length).map toSp,(d.Aa.length:Int)):=by
  refine loopF (Lf:=qbl d) (S:=fun j=>(plI d j).map toSp) (len:=d.Aa.length) (fun n=>?_) (fun j hj X hX=>?_)
  ·simp only [qbl,qj (je _),cond_false]
  ·simp only [qbl,qi hj,cond_true,qM hj,jd,wS j]
   refine Ev.bind (hL2 j hj _ (by have:=qjR h (Nat.le_of_lt hj);omega)) ?_
   rw [←qiB]
   exact hX
 have hL3:Ev (fun n=>qbh d n ((plI d d.Aa.length).map toSp) 0) ((places d).map toSp,(d.Af.length:Int)):=by
  have:=loopF (Lf:=qbh d) (S:=fun j=>(plI d d.Aa.length++plP d j).map toSp) (len:=d.Af.length) (fin:=((places d).map toSp,(d.Af.length:Int))) (fun n=>by
    simp only [qbh,qj (je _),cond_false];rfl)
   (fun j hj X hX=>by
    have hc:((plI d d.Aa.length++plP d j).map toSp).length+[(⟨-1,(j:Int),(gt d.Af j).Bo,(gt d.Af j).Bm==1⟩:Tl05Place)].length≤2147483648:=by
     rw [jG,jm,qk1];have:=qjR h (je _);simp;omega
    simp only [qbh,qi hj,cond_true,qM hj,jd,qdq hc,wS j]
    rw [qnt,←jy,List.map_append] at hX
    exact hX)
  simpa [plP] using this
 unfold qdh
 exact Ev.bind hL1 (Ev.bind hL3 .done)
def snkQ (d:qb) (k:Int) (i:Nat):Bool:=((gt (places d) i).net==k)&&!(gt (places d) i).drives
def sinksL (d:qb) (k:Int) (j:Nat):List Int:=((List.range j).filter (snkQ d k)).map fun (i:Nat)=>(i:Int)
def snkN (d:qb) (k:Int):Nat:=cntP (snkQ d k) (places d).length
theorem qgd {d:qb} {k:Int} {j:Nat}:sinksL d k (j+1)=sinksL d k j++(bif snkQ d k j then [(j:Int)] else []):=by
 unfold sinksL
 rw [List.range_succ,List.filter_append,List.map_append]
 congr 1
 cases h:snkQ d k j<;>simp [h]
theorem qfv {d:qb} {k:Int} {j:Nat}:(sinksL d k j).length=cntP (snkQ d k) j:=by
 induction j with
 | zero=>rfl
 | succ j ih =>
  rw [qgd,jm,ih]
  show _=cntP (snkQ d k) j+_
  congr 1
  cases snkQ d k j<;>rfl
theorem qoc {α β:Type} [Inhabited α] [Inhabited β] {xs:List α} {g:α→β} {j:Nat} (h:j<xs.length):gt (xs.map g) j=g (gt xs j):=by
 rw [qh6 (by simpa using h),qh6 h];simp
theorem qnf {d:qb} {k:Int} (h:smallD d):Ev (fun n=>qfN n d k) (sinksL d k (places d).length):=by
 have hl:=qcW h
 have hL:Ev (fun n=>qba k ((places d).map toSp) n ([]:List Int) 0) (sinksL d k (places d).length,((places d).length:Int)):=by
  refine loopF (Lf:=qba k ((places d).map toSp)) (S:=fun j=>sinksL d k j) (len:=(places d).length) (fun n=>?_) (fun j hj X hX=>?_)
  ·simp only [qba,jG,qj (je _),cond_false]
  ·have hj':j<((places d).map toSp).length:=by simpa using hj
   have hc:(sinksL d k j).length+[(j:Int)].length≤2147483648:=by
    rw [qfv]
    have:cntP (snkQ d k) j≤j:=qdW
    simp;omega
   simp only [qba,qi hj',cond_true,qM hj',qoc hj,jd,wS j]
   rw [show ∀ p:Tplace,(toSp p).net=p.net from fun _=>rfl,show ∀ p:Tplace,(toSp p).drives=p.drives from fun _=>rfl]
   refine Ev.bind (b:=snkQ d k j) (Ev.andP fun _=>.done) ?_
   rw [qgd] at hX
   cases hq:snkQ d k j
   ·rw [hq] at hX
    simp only [cond_false,List.append_nil] at hX ⊢
    exact hX
   ·rw [hq] at hX
    simp only [cond_true,qdq hc,jd] at hX ⊢
    exact hX
 unfold qfN
 exact Ev.bind (qjm h) (Ev.bind hL .done)
theorem qjw {l:ql} {d:qb} (h:designB l d=true) {i:Nat} (hi:i<(places d).length):0≤(gt (places d) i).net∧(gt (places d) i).net<d.Ah.length:=by
 unfold designB at h
 simp only [jf] at h
 obtain ⟨_,hI,hP,_⟩:=h
 rw [qgj,qag] at hI hP
 have hm:gt (places d) i ∈ places d:=by rw [qh6 hi];exact jt hi
 generalize gt (places d) i=p at hm
 unfold places at hm
 rcases List.mem_append.1 hm with hm|hm
 ·unfold plI at hm
  obtain ⟨i,hi,hm⟩:=List.mem_flatMap.1 hm
  unfold plX at hm
  obtain ⟨k,hk,rfl⟩:=List.mem_map.1 hm
  have:=hI i (List.mem_range.1 hi)
  unfold instB at this
  simp only [jf] at this
  have h3:=this.2.2
  rw [qf5 (d:=0),qag] at h3
  have h4:=h3 k (List.mem_range.1 hk)
  unfold netB at h4
  rw [qby] at h4
  show 0≤at0 _ _∧at0 _ _<_
  unfold at0
  omega
 ·unfold plP at hm
  obtain ⟨i,hi,rfl⟩:=List.mem_map.1 hm
  have:=hP i (List.mem_range.1 hi)
  unfold portB netB at this
  simp only [jf,qby] at this
  show 0≤(gt d.Af i).Bo∧(gt d.Af i).Bo<_
  omega
def blockB (b:qk):Bool:=(designB b.As b.Ab&&((b.Ac.length:Int)==(b.Ab.Ah.length:Int)))&&allN (fun j=>wireB (gt b.Ac j) (snkN b.Ab (j:Int))) b.Ac.length
theorem qon {b:qk} (h:qix b):Ev (fun n=>qgC n b) (blockB b):=by
 have hwl:=h.Ac.len
 unfold qgC blockB
 refine Ev.guardB (Ev.or (qm6 h.As h.Ab) fun _=>.done) fun hb=>?_
 rw [jf,beq_iff_eq] at hb
 obtain ⟨hd,hw⟩:=hb
 have hs:=qa0 hd
 have hl:=qcW hs
 have hn:=hs.nn
 rw [qiZ (m:=b.Ac.length) (by omega)]
 simp only [jd]
 have hL1:Ev (fun n=>qbw (places b.Ab) n (vecC (fun _=>0) b.Ac.length) 0) (vecC (fun k=>snkN b.Ab (k:Int)) b.Ac.length,((places b.Ab).length:Int)):=by
  refine loopF (Lf:=qbw (places b.Ab)) (S:=fun j=>vecC (fun k=>cntP (snkQ b.Ab (k:Int)) j) b.Ac.length) (len:=(places b.Ab).length) (fun n=>?_) (fun j hj X hX=>?_)
  ·simp only [qbw,qj (je _),cond_false];rfl
  ·simp only [qbw,qi hj,cond_true,qM hj,jd,wS j]
   obtain ⟨n0,n1⟩:=qjw hd hj
   cases h1:(gt (places b.Ab) j).drives
   ·have hc:cntP (snkQ b.Ab (((gt (places b.Ab) j).net.toNat:Nat):Int)) j≤j:=qdW
    obtain ⟨e1,e2⟩:=qhG (c:=fun k=>cntP (snkQ b.Ab (k:Int)) j) (c':=fun k=>cntP (snkQ b.Ab (k:Int)) (j+1)) (x:=(gt (places b.Ab) j).net) (m:=b.Ac.length) n0 (by omega) (by show cntP _ _<_;omega) (fun k _=>by
     show cntP _ j+(bif snkQ b.Ab (k:Int) j then 1 else 0)=_
     unfold snkQ
     rw [h1,Bool.not_false,Bool.and_true])
    simp only [Bool.not_false,cond_true,jd,e1,e2]
    exact hX
   ·have:vecC (fun k=>cntP (snkQ b.Ab (k:Int)) (j+1)) b.Ac.length=vecC (fun k=>cntP (snkQ b.Ab (k:Int)) j) b.Ac.length:=by
     refine qg2 (fun k _=>?_)
     show cntP _ j+(bif snkQ b.Ab (k:Int) j then 1 else 0)=_
     unfold snkQ
     rw [h1,Bool.not_true,Bool.and_false];rfl
    rw [this] at hX
    exact hX
 have hL2:Ev (fun n=>qcF b (vecC (fun k=>snkN b.Ab (k:Int)) b.Ac.length) n 0) (bif allN (fun j=>wireB (gt b.Ac j) (snkN b.Ab (j:Int))) b.Ac.length then .nxt (b.Ac.length:Int) else .ret false):=by
  refine qcY ?_ (fun j hj X hX=>Ev.succ ?_)
  ·exact Ev.succ (by simp only [qcF,qj (je _),cond_false];exact .done)
  ·simp only [qcF,qi hj,cond_true,qM hj,qg4 hj,jd,wS j]
   exact Ev.chk1 (qpn (qio h.Ac hj)) fun _=>hX
 refine Ev.bind (qiX hs) (Ev.bind hL1 (Ev.bind hL2 ?_))
 cases allN (fun j=>wireB (gt b.Ac j) (snkN b.Ab (j:Int))) b.Ac.length<;>exact .done
theorem qm0 {b:qk} (h:qix b):Ev (fun n=>qgF n b) (blockB b):=by
 have hwl:=h.Ac.len
 unfold qgF blockB
 refine Ev.guardB (Ev.or (qmK h.As h.Ab) fun _=>.done) fun hb=>?_
 rw [jf] at hb
 have hs:=qa0 hb.1
 have hL:Ev (fun n=>qcI b n 0) (bif allN (fun j=>wireB (gt b.Ac j) (snkN b.Ab (j:Int))) b.Ac.length then .nxt (b.Ac.length:Int) else .ret false):=by
  refine qcY ?_ (fun j hj X hX=>Ev.succ ?_)
  ·exact Ev.succ (by simp only [qcI,qj (je _),cond_false];exact .done)
  ·simp only [qcI,qi hj,cond_true,qM hj,jd,wS j]
   refine Ev.bind (qnf hs) ?_
   rw [qfv]
   exact Ev.chk1 (qn1 (qio h.Ac hj)) fun _=>hX
 refine Ev.bind hL ?_
 cases allN (fun j=>wireB (gt b.Ac j) (snkN b.Ab (j:Int))) b.Ac.length<;>exact .done
end Go.Fw
