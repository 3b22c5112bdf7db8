/- By a program of mine (gen.py): for each function a plain function and the proof that the code computes it. -/
import Derived.Test.YtpblhdihpnjoeaaGreatDoorA2
import Derived.Test.YtpblhdihpnjoeaaGreatDoorFw38
open Option renaming bind_some → jd
open Nat renaming le_refl → je, mul_le_mul_right → jo, le_of_ble_eq_true → jr, succ_mul → jx, lt_of_lt_of_le → jB, zero_add → jI
open Bool renaming and_eq_true → jf, eq_iff_iff → jh, true_and → jt, not_eq_true' → jw
open Go.Result renaming andThen_ok → jg
open List renaming getElem?_eq_getElem → ji, length_append → jm, mem_cons_of_mem → jn, getElem?_append_left → jp, getElem_mem → jq, mem_cons_self → js, getElem?_append_right → ju, getElem?_toArray → jv, all_eq_true → jy, eq_nil_of_length_eq_zero → jA, getElem?_take → jC, getD_eq_getElem?_getD → jD, drop_eq_getElem_cons → jE, getElem_of_mem → jF, append_assoc → jG, map_append → jH
open Go.Sem renaming run_bind → jj, run_pure → jk
open Int renaming toNat_natCast → jz

namespace Go.Fw
open Go Go.Proofs
open Go.RowKit (Below)
set_option maxRecDepth 100000
set_option maxHeartbeats 1600000
variable {n:Nat} {w:World} {cs1 cs2 cs3 cs4 cs5 cs6 cs7 cs8 cs9:List Value}
def qbQ (l:qn) (i1:Int):Nat→Int→Option (Flow Bool Int)
 | 0,_=>none
 | n+1,i2 =>
  bif decide (i2<i1) then
   (idx l.Aj i2).bind fun y2 =>
   (idx l.Aj i1).bind fun y3 =>
   bif (y2.Am.toList==y3.Am.toList) then some (.ret false) else
   qbQ l i1 n (W64 (i2+1))
  else
   some (.nxt i2)
def qbU (l:qn):Nat→Int→Option (Flow Bool Int)
 | 0,_=>none
 | n+1,i1 =>
  bif decide (i1<(l.Aj.length:Int)) then
   (idx l.Aj i1).bind fun y1 =>
   (qgQ n y1).bind fun r1 =>
   bif (!r1) then some (.ret false) else
   (qbQ l i1 n 0).bind fun o=>match o with
   | .ret r=>some (.ret r)
   | .nxt _ =>
    qbU l n (W64 (i1+1))
  else
   some (.nxt i1)
def qe9 (n:Nat) (l:qn):Option Bool :=
 (qbU l n 0).bind fun o=>match o with
 | .ret r=>some r
 | .nxt _ =>
  some (decide ((l.Aj.length:Int)≤8))
theorem qiZ {l:qn} (ha1:GoT.R w (old w) l cs1) {r:Bool} (hF:qe9 n l=some r):RetV Tryz.prog 208 [GoT.v qn cs1] w r:=by
 obtain ⟨p1,k1,rfl,s1⟩:=qa0 ha1
 refine zV 41 Tryz.func208 rfl fun h=>zSR (qy h rfl rfl fun w1 bb1 h=>X0 7 rfl ?_)
 obtain ⟨o1,hF,hK1⟩:=qf hF
 refine qm (rL (fun m e w'=>∃ (i1:Int),qbU l m i1=some o1∧e=[(1,.pointer (some ⟨bb1,0,none⟩)),(3,.int .i64 i1)]∧SH w w' [Ch.box bb1 [.slice p1 l.Aj.length k1] 41]) n ⟨_,hF,rfl,h⟩ rfl ?_)
 rintro m1 e1 w2 ⟨i1,hF,rfl,h⟩
 rcases m1 with _|m1
 ·cases hF
 refine X1 9 0 h rfl (qh rfl hF ?_ ?_)<;>intro hF
 ·refine X1 9 0 h rfl ?_
  obtain ⟨y1,hy1,hF,he1,b1,_,q1,cs2,hp1,hq1,hr1,hc2⟩:=s1.ix hF
  obtain ⟨p2,k2,p3,k3,p4,k4,rfl,s2,s3,s4⟩:=qI hr1
  refine zxe hp1 hq1 he1 rfl (zc 0 (hc2.below h.below) rfl (zcB h hF (qko (qgl y1 (h.oldS s2) (h.oldS s3) (h.oldS s4))) rfl fun r1 w3 h hF=>X0 2 rfl (qh rfl hF ?_ ?_)))<;>intro hF
  ·refine X0 4 rfl ?_
   obtain rfl:=qa hF;replace hF:=hK1
   exact rb h hF rfl
  refine X0 5 rfl ?_
  obtain ⟨o2,hF,hK2⟩:=qf hF
  refine qm (rL (fun m e w'=>∃ (i2:Int),qbQ l i1 m i2=some o2∧e=[(1,.pointer (some ⟨bb1,0,none⟩)),(3,.int .i64 i1),(4,.int .i64 i2)]∧SH w w' [Ch.box bb1 [.slice p1 l.Aj.length k1] 41]) m1 ⟨_,hF,rfl,h⟩ rfl ?_)
  rintro m2 e2 w4 ⟨i2,hF,rfl,h⟩
  rcases m2 with _|m2
  ·cases hF
  refine X0 7 rfl (qh rfl hF ?_ ?_)<;>intro hF
  ·refine X0 4 rfl (rD (Y1 2 0 h rfl ?_))
   refine zd1 rfl ?_
   obtain ⟨y2,hy2,hF,he2,b2,_,q2,cs3,hp2,hq2,hr3,hc5⟩:=s1.ix hF
   obtain ⟨p5,k5,p6,k6,p7,k7,rfl,s5,s6,s7⟩:=qI hr3
   refine zdxe hp2 hq2 he2 rfl (zd1 rfl (zdc 0 (hc5.below h.below) rfl (Y1 2 0 h rfl ?_)))
   refine zd1 rfl ?_
   obtain ⟨y3,hy3,hF,he3,b3,_,q3,cs4,hp3,hq3,hr4,hc6⟩:=s1.ix hF
   obtain ⟨p8,k8,p9,k9,p10,k10,rfl,s8,s9,s10⟩:=qI hr4
   refine zdxe hp3 hq3 he3 rfl (zd1 rfl (zdc 0 (hc6.below h.below) rfl (zd1 rfl (dN h fun w5 h=>qh rfl hF ?_ ?_))))<;>intro hF
   ·refine X0 4 rfl ?_
    obtain rfl:=qa hF;replace hF:=hK2
    obtain rfl:=qa hF;replace hF:=hK1
    exact rb h hF rfl
   exact X0 7 rfl (rK ⟨_,hF,rfl,h⟩ rfl)
  refine qq rfl ?_
  obtain rfl:=qa hF;replace hF:=hK2
  exact X0 6 rfl (rK ⟨_,hF,rfl,h⟩ rfl)
 refine qq rfl ?_
 obtain rfl:=qa hF;replace hF:=hK1
 exact X1 8 0 h rfl (rb h hF rfl)
def qck (a_1:qd) (y1:qc):Nat→Int→Option (Flow Bool Int)
 | 0,_=>none
 | n+1,i2 =>
  bif decide (i2<(y1.Ac.length:Int)) then
   (idx y1.Ac i2).bind fun y2 =>
   (qP n y2 0 (W64 ((a_1.Ac.length:Int)-1))).bind fun r1 =>
   bif (!r1) then some (.ret false) else
   qck a_1 y1 n (W64 (i2+1))
  else
   some (.nxt i2)
def qcp (a_1:qd):Nat→Int→Option (Flow Bool Int)
 | 0,_=>none
 | n+1,i3 =>
  bif decide (i3<(a_1.Af.length:Int)) then
   (idx a_1.Af i3).bind fun y4 =>
   (qP n y4.Bh 1 2).bind fun r3 =>
   bif (!r3) then some (.ret false) else
   (idx a_1.Af i3).bind fun y5 =>
   (qP n y5.Bk 0 (W64 ((a_1.Ac.length:Int)-1))).bind fun r4 =>
   bif (!r4) then some (.ret false) else
   qcp a_1 n (W64 (i3+1))
  else
   some (.nxt i3)
def qcq (a_0:qn) (a_1:qd):Nat→Int→Option (Flow Bool Int)
 | 0,_=>none
 | n+1,i1 =>
  bif decide (i1<(a_1.Aa.length:Int)) then
   (idx a_1.Aa i1).bind fun y1 =>
   (
    (qP n y1.Bj 0 (W64 ((a_0.Aj.length:Int)-1))).bind fun r2 =>
    bif (!r2) then some true else
    (idx a_0.Aj y1.Bj).bind fun y3 =>
    some ((y1.Ac.length:Int) != (y3.Ai.length:Int))).bind fun b2 =>
   bif b2 then some (.ret false) else
   (qck a_1 y1 n 0).bind fun o=>match o with
   | .ret r=>some (.ret r)
   | .nxt _ =>
    qcq a_0 a_1 n (W64 (i1+1))
  else
   some (.nxt i1)
def qfo (n:Nat) (a_0:qn) (a_1:qd):Option Bool :=
 (qcq a_0 a_1 n 0).bind fun o=>match o with
 | .ret r=>some r
 | .nxt _ =>
  (qcp a_1 n 0).bind fun o=>match o with
  | .ret r=>some r
  | .nxt _ =>
   some true
theorem qjq {a_0:qn} {a_1:qd} (ha1:GoT.R w (old w) a_0 cs1) (ha2:GoT.R w (old w) a_1 cs2) {r:Bool} (hF:qfo n a_0 a_1=some r):RetV Tryz.prog 209 [GoT.v qn cs1,GoT.v qd cs2] w r:=by
 obtain ⟨p1,k1,rfl,s1⟩:=qa0 ha1
 obtain ⟨p2,k2,p3,k3,p4,k4,rfl,s2,s3,s4⟩:=qag ha2
 refine zV 90 Tryz.func209 rfl fun h=>zSR (qy h rfl rfl fun w1 bb1 h=>qy h rfl rfl fun w2 bb2 h=>X1 14 0 h rfl ?_)
 obtain ⟨o1,hF,hK1⟩:=qf hF
 refine qm (rL (fun m e w'=>∃ (i1:Int),qcq a_0 a_1 m i1=some o1∧e=[(2,.pointer (some ⟨bb1,0,none⟩)),(3,.pointer (some ⟨bb2,0,none⟩)),(5,.int .i64 (a_1.Ac.length:Int)),(6,.int .i64 i1)]∧SH w w' [Ch.box bb2 (qaq a_1 p2 p3 p4 k2 k3 k4) 45,Ch.box bb1 [.slice p1 a_0.Aj.length k1] 41]) n ⟨_,hF,rfl,h⟩ rfl ?_)
 rintro m1 e1 w3 ⟨i1,hF,rfl,h⟩
 rcases m1 with _|m1
 ·cases hF
 refine X1 9 0 h rfl (qh rfl hF ?_ ?_)<;>intro hF
 ·refine X1 8 0 h rfl ?_
  obtain ⟨y1,hy1,hF,he1,b1,_,q1,cs3,hp1,hq1,hr1,hc2⟩:=s2.ix hF
  obtain ⟨p5,k5,rfl,s5⟩:=qJ hr1
  refine zxe hp1 hq1 he1 rfl (zc 0 (hc2.below h.below) rfl (qM qe h rfl rfl rfl fun w4 bb3 h=>zs 0 h rfl fun w5 h=>zNSS ?_))
  obtain ⟨KF1,hKF1,o3,hF,hK3⟩:=bindE hF
  refine qcw (fun e w'=>∃ (b2:Bool),KF1 b2=some o1∧e=[(2,.pointer (some ⟨bb1,0,none⟩)),(3,.pointer (some ⟨bb2,0,none⟩)),(5,.int .i64 (a_1.Ac.length:Int)),(6,.int .i64 i1),(7,.pointer (some ⟨bb3,0,none⟩)),(46,.bool b2)]∧SH w w' [Ch.box bb3 (qfC y1 p5 k5) 184,Ch.box bb2 (qaq a_1 p2 p3 p4 k2 k3 k4) 45,Ch.box bb1 [.slice p1 a_0.Aj.length k1] 41]) ?_ ?_
  ·refine rD (Y1 2 0 h rfl ?_)
   refine Y1 2 2 h rfl ?_
   refine zd2 rfl ?_
   obtain ⟨r2,hr4,hF⟩:=qf hF
   refine qbz r2 (vsB _) (cB 73 rfl) (fun _ hb=>qH  hr4) rfl rfl rfl rfl (zd2 rfl (qaH (t:=33) hF rfl ?_ ?_))<;>intro hF
   ·refine Y0 13 rfl (dN h fun w8 h=>?_)
    obtain rfl:=qa hF
    exact rG ⟨_,hK3,rfl,h⟩ rfl
   refine Y1 4 0 h rfl ?_
   refine Y1 6 2 h rfl ?_
   refine Y1 4 0 h rfl ?_
   refine Y0 1 rfl ?_
   obtain ⟨y3,hy3,hF,he3,b4,_,q3,cs5,hp3,hq3,hr5,hc7⟩:=s1.ix hF
   obtain ⟨p6,k6,p7,k7,p8,k8,rfl,s6,s7,s8⟩:=qI hr5
   refine zdxe hp3 hq3 he3 rfl (Y0 3 rfl (zdc 2 (hc7.below h.below) rfl (Y0 5 rfl (dN h fun w9 h=>?_))))
   obtain rfl:=qa hF
   exact rG ⟨_,hK3,rfl,h⟩ rfl
  rintro e3 w10 ⟨b2,hF,rfl,h⟩
  subst hKF1
  refine qh rfl hF ?_ ?_<;>intro hF
  ·refine X0 4 rfl ?_
   obtain rfl:=qa hF;replace hF:=hK1
   exact rb h hF rfl
  refine X0 5 rfl ?_
  obtain ⟨o2,hF,hK2⟩:=qf hF
  refine qm (rL (fun m e w'=>∃ (i2:Int),qck a_1 y1 m i2=some o2∧e=[(2,.pointer (some ⟨bb1,0,none⟩)),(3,.pointer (some ⟨bb2,0,none⟩)),(5,.int .i64 (a_1.Ac.length:Int)),(6,.int .i64 i1),(7,.pointer (some ⟨bb3,0,none⟩)),(8,.int .i64 i2)]∧SH w w' [Ch.box bb3 (qfC y1 p5 k5) 184,Ch.box bb2 (qaq a_1 p2 p3 p4 k2 k3 k4) 45,Ch.box bb1 [.slice p1 a_0.Aj.length k1] 41]) m1 ⟨_,hF,rfl,h⟩ rfl ?_)
  rintro m2 e2 w6 ⟨i2,hF,rfl,h⟩
  rcases m2 with _|m2
  ·cases hF
  refine X1 9 0 h rfl (qh rfl hF ?_ ?_)<;>intro hF
  ·refine X1 8 0 h rfl ?_
   obtain ⟨y2,hy2,hF,he2,b3,_,q2,cs4,hp2,hq2,rfl,hc5⟩:=s5.ix hF
   refine zxe hp2 hq2 he2 rfl (zc 0 (hc5.below h.below) rfl (zp2 rfl (zcB h hF qH rfl fun r1 w7 h hF=>X0 2 rfl (qh rfl hF ?_ ?_))))<;>intro hF
   ·refine X0 4 rfl ?_
    obtain rfl:=qa hF;replace hF:=hK2
    obtain rfl:=qa hF;replace hF:=hK1
    exact rb h hF rfl
   exact X0 7 rfl (rK ⟨_,hF,rfl,h⟩ rfl)
  refine qq rfl ?_
  obtain rfl:=qa hF;replace hF:=hK2
  refine X0 6 rfl ?_
  replace h:=h.pick [1,2] rfl
  exact rK ⟨_,hF,rfl,h⟩ rfl
 refine qq rfl ?_
 obtain rfl:=qa hF;replace hF:=hK1
 refine X0 5 rfl ?_
 obtain ⟨o4,hF,hK4⟩:=qf hF
 refine qm ?_
 replace h:=h.pick [0] rfl
 refine rL (fun m e w'=>∃ (i3:Int),qcp a_1 m i3=some o4∧e=[(3,.pointer (some ⟨bb2,0,none⟩)),(5,.int .i64 (a_1.Ac.length:Int)),(9,.int .i64 i3)]∧SH w w' [Ch.box bb2 (qaq a_1 p2 p3 p4 k2 k3 k4) 45]) n ⟨_,hF,rfl,h⟩ rfl ?_
 rintro m3 e4 w11 ⟨i3,hF,rfl,h⟩
 rcases m3 with _|m3
 ·cases hF
 refine X1 9 0 h rfl (qh rfl hF ?_ ?_)<;>intro hF
 ·refine X1 8 0 h rfl ?_
  obtain ⟨y4,hy4,hF,he4,b5,_,q4,cs6,hp4,hq4,hr6,hc9⟩:=s4.ix hF
  obtain rfl:=qX hr6
  refine zxe hp4 hq4 he4 rfl (zp1 rfl (zc 1 (hc9.below h.below) rfl (zcB h hF qH rfl fun r3 w12 h hF=>zp2 rfl (qg (t:=78) hF rfl ?_ ?_))))<;>intro hF
  ·refine X0 12 rfl (qdv rfl rfl (X0 4 rfl ?_))
   obtain rfl:=qa hF;replace hF:=hK4
   exact rb h hF rfl
  refine X1 7 0 h rfl ?_
  obtain ⟨y5,hy5,hF,he5,b6,_,q5,cs7,hp5,hq5,hr8,hc10⟩:=s4.ix hF
  obtain rfl:=qX hr8
  refine zxe hp5 hq5 he5 rfl (X0 3 rfl (zc 2 (hc10.below h.below) rfl (X0 5 rfl (zcB h hF qH rfl fun r4 w13 h hF=>X0 4 rfl (qh rfl hF ?_ ?_)))))<;>intro hF
  ·refine X0 4 rfl ?_
   obtain rfl:=qa hF;replace hF:=hK4
   exact rb h hF rfl
  exact X0 7 rfl (rK ⟨_,hF,rfl,h⟩ rfl)
 refine qq rfl ?_
 obtain rfl:=qa hF;replace hF:=hK4
 exact X0 4 rfl (rb h hF rfl)
def qce (list:(List ByteArray)) (i1:Int):Nat→Int→Option (Flow Bool Int)
 | 0,_=>none
 | n+1,i2 =>
  bif decide (i2<i1) then
   (idx list i2).bind fun y2 =>
   (idx list i1).bind fun y3 =>
   bif (y2.toList==y3.toList) then some (.ret false) else
   qce list i1 n (W64 (i2+1))
  else
   some (.nxt i2)
def qcg (list:(List ByteArray)):Nat→Int→Option (Flow Bool Int)
 | 0,_=>none
 | n+1,i1 =>
  bif decide (i1<(list.length:Int)) then
   (idx list i1).bind fun y1 =>
   (qec n y1).bind fun r1 =>
   bif (!r1) then some (.ret false) else
   (qce list i1 n 0).bind fun o=>match o with
   | .ret r=>some (.ret r)
   | .nxt _ =>
    qcg list n (W64 (i1+1))
  else
   some (.nxt i1)
def qdQ (n:Nat) (list:(List ByteArray)):Option Bool :=
 (qcg list n 0).bind fun o=>match o with
 | .ret r=>some r
 | .nxt _ =>
  some true
theorem qfk {list:(List ByteArray)} (ha1:GoT.R w (old w) list cs1) {r:Bool} (hF:qdQ n list=some r):RetV Tryz.prog 210 [GoT.v (List ByteArray) cs1] w r:=by
 obtain ⟨p1,k1,rfl,s1⟩:=ha1
 refine zV 31 Tryz.func210 rfl fun h=>X0 9 rfl ?_
 obtain ⟨o1,hF,hK1⟩:=qf hF
 refine qm (rL (fun m e w'=>∃ (i1:Int),qcg list m i1=some o1∧e=[(0,.slice p1 list.length k1),(3,.int .i64 i1)]∧SH w w' []) n ⟨_,hF,rfl,h⟩ rfl ?_)
 rintro m1 e1 w1 ⟨i1,hF,rfl,h⟩
 rcases m1 with _|m1
 ·cases hF
 refine X0 8 rfl (qh rfl hF ?_ ?_)<;>intro hF
 ·refine X0 8 rfl ?_
  obtain ⟨y1,hy1,hF,he1,b1,_,q1,cs2,hp1,hq1,rfl,hc2⟩:=s1.ix hF
  refine zxe hp1 hq1 he1 rfl (zc 0 (hc2.below h.below) rfl (zcB h hF qfW rfl fun r1 w2 h hF=>X0 2 rfl (qh rfl hF ?_ ?_)))<;>intro hF
  ·refine X0 4 rfl ?_
   obtain rfl:=qa hF;replace hF:=hK1
   exact rb h hF rfl
  refine X0 5 rfl ?_
  obtain ⟨o2,hF,hK2⟩:=qf hF
  refine qm (rL (fun m e w'=>∃ (i2:Int),qce list i1 m i2=some o2∧e=[(0,.slice p1 list.length k1),(3,.int .i64 i1),(4,.int .i64 i2)]∧SH w w' []) m1 ⟨_,hF,rfl,h⟩ rfl ?_)
  rintro m2 e2 w3 ⟨i2,hF,rfl,h⟩
  rcases m2 with _|m2
  ·cases hF
  refine X0 7 rfl (qh rfl hF ?_ ?_)<;>intro hF
  ·refine X0 4 rfl (rD (zd2 rfl ?_))
   obtain ⟨y2,hy2,hF,he2,b2,_,q2,cs3,hp2,hq2,rfl,hc5⟩:=s1.ix hF
   refine zdxe hp2 hq2 he2 rfl (zdc 0 (hc5.below h.below) rfl (zd2 rfl ?_))
   obtain ⟨y3,hy3,hF,he3,b3,_,q3,cs4,hp3,hq3,rfl,hc6⟩:=s1.ix hF
   refine zdxe hp3 hq3 he3 rfl (zdc 0 (hc6.below h.below) rfl (zd1 rfl (dN h fun w4 h=>qh rfl hF ?_ ?_)))<;>intro hF
   ·refine X0 4 rfl ?_
    obtain rfl:=qa hF;replace hF:=hK2
    obtain rfl:=qa hF;replace hF:=hK1
    exact rb h hF rfl
   exact X0 7 rfl (rK ⟨_,hF,rfl,h⟩ rfl)
  refine qq rfl ?_
  obtain rfl:=qa hF;replace hF:=hK2
  exact X0 6 rfl (rK ⟨_,hF,rfl,h⟩ rfl)
 refine qq rfl ?_
 obtain rfl:=qa hF;replace hF:=hK1
 exact X0 4 rfl (rb h hF rfl)
def qcj (x5:(List Int)) (x7:(List Int)):Nat→Int→Option (Flow Bool Int)
 | 0,_=>none
 | n+1,i5 =>
  bif decide (i5<(x5.length:Int)) then
   (idx x7 i5).bind fun y11 =>
   bif (y11 != 1) then some (.ret false) else
   qcj x5 x7 n (W64 (i5+1))
  else
   some (.nxt i5)
def qa9 (a_1:qd):Nat→(List Int)→Int→Option ((List Int) × Int)
 | 0,_,_=>none
 | n+1,x7,i4 =>
  bif decide (i4<(a_1.Af.length:Int)) then
   (idx a_1.Af i4).bind fun y7 =>
   bif (y7.Bh==1) then
    (idx a_1.Af i4).bind fun y8 =>
    (idx x7 y8.Bk).bind fun y9 =>
    (idx x7 y8.Bk).bind fun _ =>
    qa9 a_1 n (setS x7 y8.Bk (W64 (y9+1))) (W64 (i4+1))
   else
    qa9 a_1 n x7 (W64 (i4+1))
  else
   some (x7,i4)
def qbD (a_1:qd):Nat→(List Int)→Int→Option ((List Int) × Int)
 | 0,_,_=>none
 | n+1,x6,i3 =>
  bif decide (i3<(a_1.Aa.length:Int)) then
   (idx a_1.Aa i3).bind fun y3 =>
   (idx y3.Ac (W64 ((y3.Ac.length:Int)-1))).bind fun y4 =>
   (idx x6 y4).bind fun y5 =>
   (idx x6 y4).bind fun _ =>
   qbD a_1 n (setS x6 y4 (W64 (y5+1))) (W64 (i3+1))
  else
   some (x6,i3)
def qbB (a_1:qd):Nat→(List ByteArray)→Int→Option ((List ByteArray) × Int)
 | 0,_,_=>none
 | n+1,x3,i2 =>
  bif decide (i2<(a_1.Af.length:Int)) then
   (idx a_1.Af i2).bind fun y2 =>
   (appS x3 ([y2.Am]:List ByteArray)).bind fun x4 =>
   qbB a_1 n x4 (W64 (i2+1))
  else
   some (x3,i2)
def qbG (a_1:qd):Nat→(List ByteArray)→Int→Option ((List ByteArray) × Int)
 | 0,_,_=>none
 | n+1,x1,i1 =>
  bif decide (i1<(a_1.Aa.length:Int)) then
   (idx a_1.Aa i1).bind fun y1 =>
   (appS x1 ([y1.Am]:List ByteArray)).bind fun x2 =>
   qbG a_1 n x2 (W64 (i1+1))
  else
   some (x1,i1)
def qfr (n:Nat) (a_0:qn) (a_1:qd):Option Bool :=
 (
  (qe9 n a_0).bind fun r4 =>
  bif (!r4) then some true else
  bif decide ((a_1.Aa.length:Int) > 14) then some true else
  bif decide ((a_1.Ac.length:Int) > 30) then some true else
  bif decide ((a_1.Af.length:Int) > 8) then some true else
  (qfo n a_0 a_1).bind fun r5 =>
  some (!r5)).bind fun b1 =>
 bif b1 then some false else
 (qbG a_1 n ([]:List ByteArray) 0).bind fun o=>match o with
 | (x1,_) =>
  (qbB a_1 n ([]:List ByteArray) 0).bind fun o=>match o with
  | (x3,_) =>
   (
    (qdQ n x1).bind fun r1 =>
    bif (!r1) then some true else
    (qdQ n x3).bind fun r2 =>
    bif (!r2) then some true else
    (qdQ n a_1.Ac).bind fun r3 =>
    some (!r3)).bind fun b4 =>
   bif b4 then some false else
   (mkS (a_1.Ac.length:Int) (0:Int)).bind fun x5 =>
   (qbD a_1 n x5 0).bind fun o=>match o with
   | (x6,_) =>
    (qa9 a_1 n x6 0).bind fun o=>match o with
    | (x7,_) =>
     (qcj x5 x7 n 0).bind fun o=>match o with
     | .ret r=>some r
     | .nxt _ =>
      some true
theorem qjn {a_0:qn} {a_1:qd} (ha1:GoT.R w (old w) a_0 cs1) (ha2:GoT.R w (old w) a_1 cs2) {r:Bool} (hF:qfr n a_0 a_1=some r):RetV Tryz.prog 131 [GoT.v qn cs1,GoT.v qd cs2] w r:=by
 obtain ⟨p1,k1,rfl,s1⟩:=qa0 ha1
 obtain ⟨p2,k2,p3,k3,p4,k4,rfl,s2,s3,s4⟩:=qag ha2
 refine zV 153 Tryz.func131 rfl fun h=>zSR (qy h rfl rfl fun w1 bb1 h=>qy h rfl rfl fun w2 bb2 h=>X0 4 rfl ?_)
 obtain ⟨KF2,hKF2,o7,hF,hK7⟩:=bindE hF
 refine qcw (fun e w'=>∃ (b1:Bool),KF2 b1=some r∧e=[(3,.pointer (some ⟨bb2,0,none⟩)),(40,.bool b1)]∧SH w w' [Ch.box bb2 (qaq a_1 p2 p3 p4 k2 k3 k4) 45]) ?_ ?_
 ·refine X1 2 1 h rfl (zcB h hF (qiZ (h.old ha1)) rfl fun r4 w21 h hF=>zp2 rfl (qg (t:=17) hF rfl ?_ ?_))<;>intro hF
  ·refine X0 24 rfl ?_
   replace h:=h.pick [0] rfl
   obtain rfl:=qa hF
   exact rG ⟨_,hK7,rfl,h⟩ rfl
  refine X1 10 0 h rfl (qg (t:=23) hF rfl ?_ ?_)<;>intro hF
  ·refine X0 18 rfl ?_
   replace h:=h.pick [0] rfl
   obtain rfl:=qa hF
   exact rG ⟨_,hK7,rfl,h⟩ rfl
  refine X1 10 0 h rfl (qg (t:=29) hF rfl ?_ ?_)<;>intro hF
  ·refine X0 12 rfl ?_
   replace h:=h.pick [0] rfl
   obtain rfl:=qa hF
   exact rG ⟨_,hK7,rfl,h⟩ rfl
  refine X1 10 0 h rfl (qg (t:=35) hF rfl ?_ ?_)<;>intro hF
  ·refine X0 6 rfl ?_
   replace h:=h.pick [0] rfl
   obtain rfl:=qa hF
   exact rG ⟨_,hK7,rfl,h⟩ rfl
  refine X2 5 1 0 h rfl (zcB h hF (qjq (h.old ha1) (h.old ha2)) rfl fun r5 w22 h hF=>X0 4 rfl ?_)
  replace h:=h.pick [0] rfl
  obtain rfl:=qa hF
  exact rG ⟨_,hK7,rfl,h⟩ rfl
 rintro e7 w23 ⟨b1,hF,rfl,h⟩
 subst hKF2
 refine qh rfl hF ?_ ?_<;>intro hF
 ·exact X0 4 rfl (rb h hF rfl)
 refine zKSR (qbi qe [] _ ([]:List ByteArray) h rfl rfl rfl rfl rfl rfl rfl rfl rfl trivial rfl fun w3 p5 S1 h=>X0 7 rfl ?_)
 obtain ⟨o1,hF,hK1⟩:=qf hF
 refine qm (rL (fun m e w'=>∃ (S2:Nat→Prop) (p6:Option Addr) (ln1:Nat) (k5:Nat) (x1:(List ByteArray)) (i1:Int),qbG a_1 m x1 i1=some o1∧e=[(3,.pointer (some ⟨bb2,0,none⟩)),(5,.slice p6 ln1 k5),(6,.int .i64 i1)]∧SH w w' [Ch.own S2 (x1:List ByteArray) [.slice p6 ln1 k5],Ch.box bb2 (qaq a_1 p2 p3 p4 k2 k3 k4) 45]) n ⟨_,_,_,_,_,_,hF,rfl,h⟩ rfl ?_)
 rintro m1 e1 w4 ⟨S2,p6,ln1,k5,x1,i1,hF,rfl,h⟩
 obtain rfl:=(h.sl 0 rfl).2
 rcases m1 with _|m1
 ·cases hF
 refine X1 9 1 h rfl (qh rfl hF ?_ ?_)<;>intro hF
 ·refine X1 8 1 h rfl ?_
  obtain ⟨y1,hy1,hF,he1,b2,_,q1,cs3,hp1,hq1,hr1,hc3⟩:=s2.ix hF
  obtain ⟨p7,k6,rfl,s5⟩:=qJ hr1
  refine zxe hp1 hq1 he1 rfl (zp1 rfl (zc 0 (hc3.below h.below) rfl (qbi qe [.tmp 55] _ ([y1.Am]:List ByteArray) h rfl rfl rfl rfl rfl rfl rfl rfl rfl ⟨rfl,trivial⟩ rfl fun w5 p8 S3 h=>?_)))
  obtain ⟨x2,hx1,hF⟩:=qf hF
  obtain ⟨g1,hx1⟩:=qdq hx1
  refine qgH qe 1 h rfl (h.sl 0 rfl).1 (h.sl 0 rfl).2 rfl rfl rfl rfl rfl rfl rfl rfl rfl g1 hx1 rfl fun w6 p9 k7 S4 h=>X0 8 rfl ?_
  replace h:=h.pick [1,2] rfl
  exact rK ⟨_,_,_,_,_,_,hF,rfl,h⟩ rfl
 refine qq rfl ?_
 obtain rfl:=qa hF;replace hF:=hK1
 refine zSR (qbi qe [] _ ([]:List ByteArray) h rfl rfl rfl rfl rfl rfl rfl rfl rfl trivial rfl fun w7 p10 S5 h=>X0 7 rfl ?_)
 obtain ⟨o2,hF,hK2⟩:=qf hF
 refine qm (rL (fun m e w'=>∃ (S6:Nat→Prop) (p11:Option Addr) (ln2:Nat) (k8:Nat) (x3:(List ByteArray)) (i2:Int),qbB a_1 m x3 i2=some o2∧e=[(3,.pointer (some ⟨bb2,0,none⟩)),(5,.slice p6 x1.length k5),(7,.slice p11 ln2 k8),(8,.int .i64 i2)]∧SH w w' [Ch.own S6 (x3:List ByteArray) [.slice p11 ln2 k8],Ch.own S2 (x1:List ByteArray) [.slice p6 x1.length k5],Ch.box bb2 (qaq a_1 p2 p3 p4 k2 k3 k4) 45]) n ⟨_,_,_,_,_,_,hF,rfl,h⟩ rfl ?_)
 rintro m2 e2 w8 ⟨S6,p11,ln2,k8,x3,i2,hF,rfl,h⟩
 obtain rfl:=(h.sl 0 rfl).2
 rcases m2 with _|m2
 ·cases hF
 refine X1 9 2 h rfl (qh rfl hF ?_ ?_)<;>intro hF
 ·refine X1 8 2 h rfl ?_
  obtain ⟨y2,hy2,hF,he2,b3,_,q2,cs4,hp2,hq2,hr2,hc5⟩:=s4.ix hF
  obtain rfl:=qX hr2
  refine zxe hp2 hq2 he2 rfl (zp1 rfl (zc 0 (hc5.below h.below) rfl (qbi qe [.tmp 72] _ ([y2.Am]:List ByteArray) h rfl rfl rfl rfl rfl rfl rfl rfl rfl ⟨rfl,trivial⟩ rfl fun w9 p12 S7 h=>?_)))
  obtain ⟨x4,hx2,hF⟩:=qf hF
  obtain ⟨g2,hx2⟩:=qdq hx2
  refine qgH qe 1 h rfl (h.sl 0 rfl).1 (h.sl 0 rfl).2 rfl rfl rfl rfl rfl rfl rfl rfl rfl g2 hx2 rfl fun w10 p13 k9 S8 h=>X0 8 rfl ?_
  replace h:=h.pick [1,2,3] rfl
  exact rK ⟨_,_,_,_,_,_,hF,rfl,h⟩ rfl
 refine qq rfl ?_
 obtain rfl:=qa hF;replace hF:=hK2
 refine zSS ?_
 obtain ⟨KF1,hKF1,o6,hF,hK6⟩:=bindE hF
 refine qcw (fun e w'=>∃ (b4:Bool),KF1 b4=some r∧e=[(3,.pointer (some ⟨bb2,0,none⟩)),(88,.bool b4)]∧SH w w' [Ch.box bb2 (qaq a_1 p2 p3 p4 k2 k3 k4) 45]) ?_ ?_
 ·refine X0 2 rfl (zcB h hF (qfk (h.own 1 rfl)) rfl fun r1 w17 h hF=>zp2 rfl (qg (t:=78) hF rfl ?_ ?_))<;>intro hF
  ·refine X0 11 rfl ?_
   replace h:=h.pick [2] rfl
   obtain rfl:=qa hF
   exact rG ⟨_,hK6,rfl,h⟩ rfl
  refine X0 3 rfl (zcB h hF (qfk (h.own 0 rfl)) rfl fun r2 w18 h hF=>X0 4 rfl (qg (t:=83) hF rfl ?_ ?_))<;>intro hF
  ·refine X0 6 rfl ?_
   replace h:=h.pick [2] rfl
   obtain rfl:=qa hF
   exact rG ⟨_,hK6,rfl,h⟩ rfl
  refine X1 5 2 h rfl (zcB h hF (qfk ⟨_,_,rfl,(h.oldS s3)⟩) rfl fun r3 w19 h hF=>X0 4 rfl ?_)
  replace h:=h.pick [2] rfl
  obtain rfl:=qa hF
  exact rG ⟨_,hK6,rfl,h⟩ rfl
 rintro e6 w20 ⟨b4,hF,rfl,h⟩
 subst hKF1
 refine qh rfl hF ?_ ?_<;>intro hF
 ·exact X0 4 rfl (rb h hF rfl)
 refine X1 6 0 h rfl ?_
 obtain ⟨x5,hx3,hF⟩:=qf hF
 obtain ⟨g3,g4,hx3⟩:=qb4 hx3
 refine qc6 qe Int h rfl rfl rfl rfl rfl rfl rfl rfl rfl g3 g4 hx3 rfl fun w11 S9 p14 h=>X0 7 rfl ?_
 obtain ⟨o3,hF,hK3⟩:=qf hF
 refine qm (rL (fun m e w'=>∃ (x6:(List Int)) (i3:Int),qbD a_1 m x6 i3=some o3∧e=[(3,.pointer (some ⟨bb2,0,none⟩)),(9,.slice p14 x5.length x5.length),(10,.int .i64 i3)]∧SH w w' [Ch.own S9 (x6:List Int) [.slice p14 x5.length x5.length],Ch.box bb2 (qaq a_1 p2 p3 p4 k2 k3 k4) 45]) n ⟨_,_,hF,rfl,h⟩ rfl ?_)
 rintro m3 e3 w12 ⟨x6,i3,hF,rfl,h⟩
 rcases m3 with _|m3
 ·cases hF
 refine X1 9 1 h rfl (qh rfl hF ?_ ?_)<;>intro hF
 ·refine X1 8 1 h rfl ?_
  obtain ⟨y3,hy3,hF,he3,b5,_,q3,cs5,hp3,hq3,hr3,hc8⟩:=s2.ix hF
  obtain ⟨p15,k10,rfl,s6⟩:=qJ hr3
  refine zxe hp3 hq3 he3 rfl (zp1 rfl (zc 2 (hc8.below h.below) rfl (X0 8 rfl ?_)))
  obtain ⟨y4,hy4,hF,he4,b6,_,q4,cs6,hp4,hq4,rfl,hc9⟩:=s6.ix hF
  refine zxe hp4 hq4 he4 rfl (zc 0 (hc9.below h.below) rfl ?_)
  obtain ⟨y5,hy5,hF,he5,b7,_,q5,cs7,hp5,hq5,rfl,hc10⟩:=(h.sl 0 rfl).1.ix hF
  refine zx hp5 hq5 ⟨he5.1,qK he5.2.1 (h.sl 0 rfl).2⟩ rfl (zc 0 hc10 rfl (zp1 rfl ?_))
  obtain ⟨y6,hy6,hF,he6,b8,_,q6,cs8,hp6,hq6,rfl,hc11⟩:=(h.sl 0 rfl).1.ix hF
  exact zx hp6 hq6 ⟨he6.1,qK he6.2.1 (h.sl 0 rfl).2⟩ rfl (qaN qe 0 0 (W64 (y5+1)) h rfl hy6 hp6 hq6 rfl hc11 rfl rfl rfl rfl rfl rfl rfl fun w13 h=>X0 7 rfl (rK ⟨_,_,hF,rfl,h⟩ rfl))
 refine qq rfl ?_
 obtain rfl:=qa hF;replace hF:=hK3
 refine X0 5 rfl ?_
 obtain ⟨o4,hF,hK4⟩:=qf hF
 refine qm (rL (fun m e w'=>∃ (x7:(List Int)) (i4:Int),qa9 a_1 m x7 i4=some o4∧e=[(3,.pointer (some ⟨bb2,0,none⟩)),(9,.slice p14 x5.length x5.length),(12,.int .i64 i4)]∧SH w w' [Ch.own S9 (x7:List Int) [.slice p14 x5.length x5.length],Ch.box bb2 (qaq a_1 p2 p3 p4 k2 k3 k4) 45]) n ⟨_,_,hF,rfl,h⟩ rfl ?_)
 rintro m4 e4 w14 ⟨x7,i4,hF,rfl,h⟩
 rcases m4 with _|m4
 ·cases hF
 refine X1 9 1 h rfl (qh rfl hF ?_ ?_)<;>intro hF
 ·refine X1 8 1 h rfl ?_
  obtain ⟨y7,hy7,hF,he7,b9,_,q7,cs9,hp7,hq7,hr7,hc13⟩:=s4.ix hF
  obtain rfl:=qX hr7
  refine zxe hp7 hq7 he7 rfl (zp1 rfl (zc 1 (hc13.below h.below) rfl (X0 2 rfl (qh rfl hF ?_ ?_))))<;>intro hF
  ·refine X1 5 1 h rfl ?_
   obtain ⟨y8,hy8,hF,he8,b10,_,q8,cs10,hp8,hq8,hr8,hc15⟩:=s4.ix hF
   obtain rfl:=qX hr8
   refine zxe hp8 hq8 he8 rfl (zp1 rfl (zc 2 (hc15.below h.below) rfl ?_))
   obtain ⟨y9,hy9,hF,he9,b11,_,q9,cs11,hp9,hq9,rfl,hc16⟩:=(h.sl 0 rfl).1.ix hF
   refine zx hp9 hq9 ⟨he9.1,qK he9.2.1 (h.sl 0 rfl).2⟩ rfl (zc 0 hc16 rfl (zp1 rfl ?_))
   obtain ⟨y10,hy10,hF,he10,b12,_,q10,cs12,hp10,hq10,rfl,hc17⟩:=(h.sl 0 rfl).1.ix hF
   exact zx hp10 hq10 ⟨he10.1,qK he10.2.1 (h.sl 0 rfl).2⟩ rfl (qaN qe 0 0 (W64 (y9+1)) h rfl hy10 hp10 hq10 rfl hc17 rfl rfl rfl rfl rfl rfl rfl fun w15 h=>X0 7 rfl (rK ⟨_,_,hF,rfl,h⟩ rfl))
  exact X0 7 rfl (rK ⟨_,_,hF,rfl,h⟩ rfl)
 refine qq rfl ?_
 obtain rfl:=qa hF;replace hF:=hK4
 refine X0 5 rfl ?_
 obtain ⟨o5,hF,hK5⟩:=qf hF
 refine qm ?_
 replace h:=h.pick [0] rfl
 refine rL (fun m e w'=>∃ (i5:Int),qcj x5 x7 m i5=some o5∧e=[(9,.slice p14 x5.length x5.length),(13,.int .i64 i5)]∧SH w w' [Ch.own S9 (x7:List Int) [.slice p14 x5.length x5.length]]) n ⟨_,hF,rfl,h⟩ rfl ?_
 rintro m5 e5 w16 ⟨i5,hF,rfl,h⟩
 rcases m5 with _|m5
 ·cases hF
 refine X0 8 rfl (qh rfl hF ?_ ?_)<;>intro hF
 ·refine X0 7 rfl ?_
  obtain ⟨y11,hy11,hF,he11,b13,_,q11,cs13,hp11,hq11,rfl,hc19⟩:=(h.sl 0 rfl).1.ix hF
  refine zx hp11 hq11 ⟨he11.1,qK he11.2.1 (h.sl 0 rfl).2⟩ rfl (zc 0 hc19 rfl (X0 2 rfl (qh rfl hF ?_ ?_)))<;>intro hF
  ·refine X0 4 rfl ?_
   obtain rfl:=qa hF;replace hF:=hK5
   exact rb h hF rfl
  exact X0 7 rfl (rK ⟨_,hF,rfl,h⟩ rfl)
 refine qq rfl ?_
 obtain rfl:=qa hF;replace hF:=hK5
 exact X0 4 rfl (rb h hF rfl)
def qc8 (a_0:qr):Nat→Int→Option (Flow Bool Int)
 | 0,_=>none
 | n+1,i2 =>
  bif decide (i2<(a_0.Be.length:Int)) then
   (idx a_0.Be i2).bind fun y7 =>
   (qP n y7 0 (W64 ((a_0.Ah.length:Int)-1))).bind fun r5 =>
   bif (!r5) then some (.ret false) else
   qc8 a_0 n (W64 (i2+1))
  else
   some (.nxt i2)
def qbl (a_0:qr):Nat→Int→Option (Flow Bool Int)
 | 0,_=>none
 | n+1,i1 =>
  bif decide (i1<(a_0.Ah.length:Int)) then
   (
    (idx a_0.Bg i1).bind fun y5 =>
    (qP n y5 0 500).bind fun r3 =>
    bif (!r3) then some true else
    (idx a_0.Bi i1).bind fun y6 =>
    (qP n y6 0 1000).bind fun r4 =>
    some (!r4)).bind fun b2 =>
   bif b2 then some (.ret false) else
   bif (i1==0) then
    (idx a_0.Ah i1).bind fun y1 =>
    bif (y1 != (-1)) then some (.ret false) else
    (idx a_0.Bi i1).bind fun y2 =>
    bif (y2 != 0) then some (.ret false) else
    bif decide (i1 > 0) then
     (idx a_0.Ah i1).bind fun y3 =>
     (qP n y3 0 (W64 (i1-1))).bind fun r1 =>
     bif (!r1) then some (.ret false) else
     qbl a_0 n (W64 (i1+1))
    else
     qbl a_0 n (W64 (i1+1))
   else
    bif decide (i1 > 0) then
     (idx a_0.Ah i1).bind fun y4 =>
     (qP n y4 0 (W64 (i1-1))).bind fun r2 =>
     bif (!r2) then some (.ret false) else
     qbl a_0 n (W64 (i1+1))
    else
     qbl a_0 n (W64 (i1+1))
  else
   some (.nxt i1)
def qgN (n:Nat) (a_0:qr) (a_1:Int):Option Bool :=
 (
  bif decide ((a_0.Ah.length:Int)<1) then some true else
  bif decide ((a_0.Ah.length:Int) > 8) then some true else
  bif ((a_0.Bi.length:Int) != (a_0.Ah.length:Int)) then some true else
  bif ((a_0.Bg.length:Int) != (a_0.Ah.length:Int)) then some true else
  some ((a_0.Be.length:Int) != a_1)).bind fun b1 =>
 bif b1 then some false else
 (qbl a_0 n 0).bind fun o=>match o with
 | .ret r=>some r
 | .nxt _ =>
  (qc8 a_0 n 0).bind fun o=>match o with
  | .ret r=>some r
  | .nxt _ =>
   some true
theorem qkV {a_0:qr} {a_1:Int} (ha1:GoT.R w (old w) a_0 cs1) {r:Bool} (hF:qgN n a_0 a_1=some r):RetV Tryz.prog 132 [GoT.v qr cs1,.int .i64 a_1] w r:=by
 obtain ⟨p1,k1,p2,k2,p3,k3,p4,k4,rfl,s1,s2,s3,s4⟩:=qaS ha1
 refine zV 108 Tryz.func132 rfl fun h=>zSR (qy h rfl rfl fun w1 bb1 h=>X1 11 0 h rfl ?_)
 obtain ⟨KF2,hKF2,o4,hF,hK4⟩:=bindE hF
 refine qcw (fun e w'=>∃ (b1:Bool),KF2 b1=some r∧e=[(2,.pointer (some ⟨bb1,0,none⟩)),(5,.int .i64 (a_0.Ah.length:Int)),(37,.bool b1)]∧SH w w' [Ch.box bb1 (qhl a_0 p1 p2 p3 p4 k1 k2 k3 k4) 215]) ?_ ?_
 ·refine X0 4 rfl (qg (t:=13) hF rfl ?_ ?_)<;>intro hF
  ·refine X0 25 rfl ?_
   obtain rfl:=qa hF
   exact rG ⟨_,hK4,rfl,h⟩ rfl
  refine X0 6 rfl (qg (t:=17) hF rfl ?_ ?_)<;>intro hF
  ·refine X0 21 rfl ?_
   obtain rfl:=qa hF
   exact rG ⟨_,hK4,rfl,h⟩ rfl
  refine X1 12 0 h rfl (qg (t:=24) hF rfl ?_ ?_)<;>intro hF
  ·refine X0 14 rfl ?_
   obtain rfl:=qa hF
   exact rG ⟨_,hK4,rfl,h⟩ rfl
  refine X1 12 0 h rfl (qg (t:=31) hF rfl ?_ ?_)<;>intro hF
  ·refine X0 7 rfl ?_
   obtain rfl:=qa hF
   exact rG ⟨_,hK4,rfl,h⟩ rfl
  refine X1 12 0 h rfl ?_
  obtain rfl:=qa hF
  exact rG ⟨_,hK4,rfl,h⟩ rfl
 rintro e4 w10 ⟨b1,hF,rfl,h⟩
 subst hKF2
 refine qh rfl hF ?_ ?_<;>intro hF
 ·exact X0 4 rfl (rb h hF rfl)
 refine X0 6 rfl ?_
 obtain ⟨o1,hF,hK1⟩:=qf hF
 refine qm (rL (fun m e w'=>∃ (i1:Int),qbl a_0 m i1=some o1∧e=[(2,.pointer (some ⟨bb1,0,none⟩)),(5,.int .i64 (a_0.Ah.length:Int)),(6,.int .i64 i1)]∧SH w w' [Ch.box bb1 (qhl a_0 p1 p2 p3 p4 k1 k2 k3 k4) 215]) n ⟨_,hF,rfl,h⟩ rfl ?_)
 rintro m1 e1 w2 ⟨i1,hF,rfl,h⟩
 rcases m1 with _|m1
 ·cases hF
 refine X0 7 rfl (qh rfl hF ?_ ?_)<;>intro hF
 ·refine X0 5 rfl ?_
  obtain ⟨KF1,hKF1,o2,hF,hK2⟩:=bindE hF
  refine qcw (fun e w'=>∃ (b2:Bool),KF1 b2=some o1∧e=[(2,.pointer (some ⟨bb1,0,none⟩)),(5,.int .i64 (a_0.Ah.length:Int)),(6,.int .i64 i1),(58,.bool b2)]∧SH w w' [Ch.box bb1 (qhl a_0 p1 p2 p3 p4 k1 k2 k3 k4) 215]) ?_ ?_
  ·refine X1 4 0 h rfl ?_
   obtain ⟨y5,hy5,hF,he5,b7,_,q5,cs6,hp5,hq5,rfl,hc10⟩:=s3.ix hF
   refine zxe hp5 hq5 he5 rfl (zc 0 (hc10.below h.below) rfl (zcB h hF qH rfl fun r3 w5 h hF=>zp2 rfl (qg (t:=50) hF rfl ?_ ?_)))<;>intro hF
   ·refine X0 9 rfl ?_
    obtain rfl:=qa hF
    exact rG ⟨_,hK2,rfl,h⟩ rfl
   refine X1 7 0 h rfl ?_
   obtain ⟨y6,hy6,hF,he6,b8,_,q6,cs7,hp6,hq6,rfl,hc11⟩:=s2.ix hF
   refine zxe hp6 hq6 he6 rfl (X0 1 rfl (zc 0 (hc11.below h.below) rfl (X0 1 rfl (zcB h hF qH rfl fun r4 w6 h hF=>X0 4 rfl ?_))))
   obtain rfl:=qa hF
   exact rG ⟨_,hK2,rfl,h⟩ rfl
  rintro e2 w7 ⟨b2,hF,rfl,h⟩
  subst hKF1
  refine qh rfl hF ?_ ?_<;>intro hF
  ·refine X0 4 rfl ?_
   obtain rfl:=qa hF;replace hF:=hK1
   exact rb h hF rfl
  refine X0 6 rfl (qg (t:=61) hF rfl ?_ ?_)<;>intro hF
  ·refine X1 7 0 h rfl ?_
   obtain ⟨y1,hy1,hF,he1,b3,_,q1,cs2,hp1,hq1,rfl,hc4⟩:=s1.ix hF
   refine zxe hp1 hq1 he1 rfl (X0 1 rfl (zc 0 (hc4.below h.below) rfl (X0 4 rfl (qg (t:=68) hF rfl ?_ ?_))))<;>intro hF
   ·refine X0 25 rfl (qdv rfl rfl (X0 4 rfl ?_))
    obtain rfl:=qa hF;replace hF:=hK1
    exact rb h hF rfl
   refine X1 7 0 h rfl ?_
   obtain ⟨y2,hy2,hF,he2,b4,_,q2,cs3,hp2,hq2,rfl,hc5⟩:=s2.ix hF
   refine zxe hp2 hq2 he2 rfl (X0 1 rfl (zc 0 (hc5.below h.below) rfl (X0 6 rfl (qg (t:=77) hF rfl ?_ ?_))))<;>intro hF
   ·refine X0 15 rfl (qdv rfl rfl (X0 4 rfl ?_))
    obtain rfl:=qa hF;replace hF:=hK1
    exact rb h hF rfl
   refine X0 6 rfl (qg (t:=80) hF rfl ?_ ?_)<;>intro hF
   ·refine X1 7 0 h rfl ?_
    obtain ⟨y3,hy3,hF,he3,b5,_,q3,cs4,hp3,hq3,rfl,hc6⟩:=s1.ix hF
    refine zxe hp3 hq3 he3 rfl (X0 1 rfl (zc 0 (hc6.below h.below) rfl (X0 5 rfl (zcB h hF qH rfl fun r1 w3 h hF=>X0 6 rfl (qh rfl hF ?_ ?_)))))<;>intro hF
    ·refine X0 4 rfl ?_
     obtain rfl:=qa hF;replace hF:=hK1
     exact rb h hF rfl
    exact X0 7 rfl (rK ⟨_,hF,rfl,h⟩ rfl)
   exact X0 13 rfl (qej rfl rfl (X0 7 rfl (rK ⟨_,hF,rfl,h⟩ rfl)))
  refine X0 22 rfl (qg (t:=80) hF rfl ?_ ?_)<;>intro hF
  ·refine X1 7 0 h rfl ?_
   obtain ⟨y4,hy4,hF,he4,b6,_,q4,cs5,hp4,hq4,rfl,hc8⟩:=s1.ix hF
   refine zxe hp4 hq4 he4 rfl (X0 1 rfl (zc 0 (hc8.below h.below) rfl (X0 5 rfl (zcB h hF qH rfl fun r2 w4 h hF=>X0 6 rfl (qh rfl hF ?_ ?_)))))<;>intro hF
   ·refine X0 4 rfl ?_
    obtain rfl:=qa hF;replace hF:=hK1
    exact rb h hF rfl
   exact X0 7 rfl (rK ⟨_,hF,rfl,h⟩ rfl)
  exact X0 13 rfl (qej rfl rfl (X0 7 rfl (rK ⟨_,hF,rfl,h⟩ rfl)))
 refine qq rfl ?_
 obtain rfl:=qa hF;replace hF:=hK1
 refine X0 5 rfl ?_
 obtain ⟨o3,hF,hK3⟩:=qf hF
 refine qm (rL (fun m e w'=>∃ (i2:Int),qc8 a_0 m i2=some o3∧e=[(2,.pointer (some ⟨bb1,0,none⟩)),(5,.int .i64 (a_0.Ah.length:Int)),(7,.int .i64 i2)]∧SH w w' [Ch.box bb1 (qhl a_0 p1 p2 p3 p4 k1 k2 k3 k4) 215]) n ⟨_,hF,rfl,h⟩ rfl ?_)
 rintro m2 e3 w8 ⟨i2,hF,rfl,h⟩
 rcases m2 with _|m2
 ·cases hF
 refine X1 9 0 h rfl (qh rfl hF ?_ ?_)<;>intro hF
 ·refine X1 8 0 h rfl ?_
  obtain ⟨y7,hy7,hF,he7,b9,_,q7,cs8,hp7,hq7,rfl,hc13⟩:=s4.ix hF
  refine zxe hp7 hq7 he7 rfl (zc 0 (hc13.below h.below) rfl (zp2 rfl (zcB h hF qH rfl fun r5 w9 h hF=>X0 2 rfl (qh rfl hF ?_ ?_))))<;>intro hF
  ·refine X0 4 rfl ?_
   obtain rfl:=qa hF;replace hF:=hK3
   exact rb h hF rfl
  exact X0 7 rfl (rK ⟨_,hF,rfl,h⟩ rfl)
 refine qq rfl ?_
 obtain rfl:=qa hF;replace hF:=hK3
 exact X0 4 rfl (rb h hF rfl)
def qbj (i1:Int) (y1:qc):Nat→(List Tl05Place)→Int→Option ((List Tl05Place) × Int)
 | 0,_,_=>none
 | n+1,x2,i2 =>
  bif decide (i2<(y1.Ac.length:Int)) then
   (idx y1.Ac i2).bind fun y2 =>
   (appS x2 ([(⟨i1,i2,y2,(i2==(W64 ((y1.Ac.length:Int)-1)))⟩:Tl05Place)]:List Tl05Place)).bind fun x3 =>
   qbj i1 y1 n x3 (W64 (i2+1))
  else
   some (x2,i2)
def qbc (a_0:qd):Nat→(List Tl05Place)→Int→Option ((List Tl05Place) × Int)
 | 0,_,_=>none
 | n+1,x4,i3 =>
  bif decide (i3<(a_0.Af.length:Int)) then
   (idx a_0.Af i3).bind fun y3 =>
   (idx a_0.Af i3).bind fun y4 =>
   (appS x4 ([(⟨(-1),i3,y3.Bk,(y4.Bh==1)⟩:Tl05Place)]:List Tl05Place)).bind fun x5 =>
   qbc a_0 n x5 (W64 (i3+1))
  else
   some (x4,i3)
def qbg (a_0:qd):Nat→(List Tl05Place)→Int→Option ((List Tl05Place) × Int)
 | 0,_,_=>none
 | n+1,x1,i1 =>
  bif decide (i1<(a_0.Aa.length:Int)) then
   (idx a_0.Aa i1).bind fun y1 =>
   (qbj i1 y1 n x1 0).bind fun o=>match o with
   | (x2,_) =>
    qbg a_0 n x2 (W64 (i1+1))
  else
   some (x1,i1)
def qe7 (n:Nat) (a_0:qd):Option (List Tl05Place) :=
 (qbg a_0 n ([]:List Tl05Place) 0).bind fun o=>match o with
 | (x1,_) =>
  (qbc a_0 n x1 0).bind fun o=>match o with
  | (x4,_) =>
   some x4
theorem qiT {a_0:qd} (ha1:GoT.R w (old w) a_0 cs1) {r:(List Tl05Place)} (hF:qe7 n a_0=some r):RetV Tryz.prog 184 [GoT.v qd cs1] w r:=by
 obtain ⟨p1,k1,p2,k2,p3,k3,rfl,s1,s2,s3⟩:=qag ha1
 refine zV 69 Tryz.func184 rfl fun h=>zSR (qy h rfl rfl fun w1 bb1 h=>X0 4 rfl (qbi qe [] _ ([]:List Tl05Place) h rfl rfl rfl rfl rfl rfl rfl rfl rfl trivial rfl fun w2 p4 S1 h=>X0 7 rfl ?_))
 obtain ⟨o1,hF,hK1⟩:=qf hF
 refine qm (rL (fun m e w'=>∃ (S2:Nat→Prop) (p5:Option Addr) (ln1:Nat) (k4:Nat) (x1:(List Tl05Place)) (i1:Int),qbg a_0 m x1 i1=some o1∧e=[(1,.pointer (some ⟨bb1,0,none⟩)),(3,.slice p5 ln1 k4),(4,.int .i64 i1)]∧SH w w' [Ch.own S2 (x1:List Tl05Place) [.slice p5 ln1 k4],Ch.box bb1 (qaq a_0 p1 p2 p3 k1 k2 k3) 45]) n ⟨_,_,_,_,_,_,hF,rfl,h⟩ rfl ?_)
 rintro m1 e1 w3 ⟨S2,p5,ln1,k4,x1,i1,hF,rfl,h⟩
 obtain rfl:=(h.sl 0 rfl).2
 rcases m1 with _|m1
 ·cases hF
 refine X1 9 1 h rfl (qh rfl hF ?_ ?_)<;>intro hF
 ·refine X1 8 1 h rfl ?_
  obtain ⟨y1,hy1,hF,he1,b1,_,q1,cs2,hp1,hq1,hr1,hc2⟩:=s1.ix hF
  obtain ⟨p6,k5,rfl,s4⟩:=qJ hr1
  refine zxe hp1 hq1 he1 rfl (zp1 rfl (zc 2 (hc2.below h.below) rfl (X0 6 rfl ?_)))
  obtain ⟨o2,hF,hK2⟩:=qf hF
  refine qm (rL (fun m e w'=>∃ (S3:Nat→Prop) (p7:Option Addr) (ln2:Nat) (k6:Nat) (x2:(List Tl05Place)) (i2:Int),qbj i1 y1 m x2 i2=some o2∧e=[(1,.pointer (some ⟨bb1,0,none⟩)),(3,.slice p7 ln2 k6),(4,.int .i64 i1),(5,.slice p6 y1.Ac.length k5),(6,.int .i64 i2)]∧SH w w' [Ch.own S3 (x2:List Tl05Place) [.slice p7 ln2 k6],Ch.box bb1 (qaq a_0 p1 p2 p3 k1 k2 k3) 45]) m1 ⟨_,_,_,_,_,_,hF,rfl,h⟩ rfl ?_)
  rintro m2 e2 w4 ⟨S3,p7,ln2,k6,x2,i2,hF,rfl,h⟩
  obtain rfl:=(h.sl 0 rfl).2
  rcases m2 with _|m2
  ·cases hF
  refine X0 8 rfl (qh rfl hF ?_ ?_)<;>intro hF
  ·refine X0 9 rfl ?_
   obtain ⟨y2,hy2,hF,he2,b2,_,q2,cs3,hp2,hq2,rfl,hc4⟩:=s4.ix hF
   refine zxe hp2 hq2 he2 rfl (zc 0 (hc4.below h.below) rfl (zp5 rfl (r_v (qh8 qe [0,1,2,3] [.tmp 29,.tmp 30,.tmp 34,.tmp 39] rfl rfl rfl rfl rfl rfl rfl rfl) rfl (qbi qe [.tmp 40] _ ([(⟨i1,i2,y2,(i2==(W64 ((y1.Ac.length:Int)-1)))⟩:Tl05Place)]:List Tl05Place) h rfl rfl rfl rfl rfl rfl rfl rfl rfl ⟨(qir (⟨i1,i2,y2,(i2==(W64 ((y1.Ac.length:Int)-1)))⟩:Tl05Place)),trivial⟩ rfl fun w5 p8 S4 h=>?_))))
   obtain ⟨x3,hx1,hF⟩:=qf hF
   obtain ⟨g1,hx1⟩:=qdq hx1
   refine qgH qe 1 h rfl (h.sl 0 rfl).1 (h.sl 0 rfl).2 rfl rfl rfl rfl rfl rfl rfl rfl rfl g1 hx1 rfl fun w6 p9 k7 S5 h=>X0 8 rfl ?_
   replace h:=h.pick [1,2] rfl
   exact rK ⟨_,_,_,_,_,_,hF,rfl,h⟩ rfl
  refine qq rfl ?_
  obtain rfl:=qa hF;replace hF:=hK2
  exact X0 6 rfl (rK ⟨_,_,_,_,_,_,hF,rfl,h⟩ rfl)
 refine qq rfl ?_
 obtain rfl:=qa hF;replace hF:=hK1
 refine X0 5 rfl ?_
 obtain ⟨o3,hF,hK3⟩:=qf hF
 refine qm (rL (fun m e w'=>∃ (S6:Nat→Prop) (p10:Option Addr) (ln3:Nat) (k8:Nat) (x4:(List Tl05Place)) (i3:Int),qbc a_0 m x4 i3=some o3∧e=[(1,.pointer (some ⟨bb1,0,none⟩)),(3,.slice p10 ln3 k8),(7,.int .i64 i3)]∧SH w w' [Ch.own S6 (x4:List Tl05Place) [.slice p10 ln3 k8],Ch.box bb1 (qaq a_0 p1 p2 p3 k1 k2 k3) 45]) n ⟨_,_,_,_,_,_,hF,rfl,h⟩ rfl ?_)
 rintro m3 e3 w7 ⟨S6,p10,ln3,k8,x4,i3,hF,rfl,h⟩
 obtain rfl:=(h.sl 0 rfl).2
 rcases m3 with _|m3
 ·cases hF
 refine X1 9 1 h rfl (qh rfl hF ?_ ?_)<;>intro hF
 ·refine zKSB (rA [] [1] h rfl fun w8 h=>M1 31 [0,1,2,3,4] 0 (h.pick [1] rfl) rfl ?_)
  obtain ⟨y3,hy3,hF,he3,b3,_,q3,cs4,hp3,hq3,hr3,hc6⟩:=s3.ix hF
  obtain rfl:=qX hr3
  refine Ae 5 63 hp3 hq3 he3 (h.pick [1] rfl) rfl (M0 127 [6] (h.pick [1] rfl) rfl (Al 7 255 2 hc6 (h.pick [1] rfl) rfl (M1 2047 [8,9,10] 0 (h.pick [1] rfl) rfl ?_)))
  obtain ⟨y4,hy4,hF,he4,b4,_,q4,cs5,hp4,hq4,hr4,hc7⟩:=s3.ix hF
  obtain rfl:=qX hr4
  refine Ae 11 4095 hp4 hq4 he4 (h.pick [1] rfl) rfl (M0 8191 [12] (h.pick [1] rfl) rfl (Al 13 16383 1 hc7 (h.pick [1] rfl) rfl (M0 32767 [14] (h.pick [1] rfl) rfl (Aw 15 65535 (fun w' hw=>qh8 qe [0,1,2,3] [.const (.int .i64 (-1)),.tmp 51,.tmp 57,.tmp 64] rfl rfl rfl rfl rfl rfl rfl rfl) (h.pick [1] rfl) rfl ?_))))
  refine Ao 16 131071 rfl (qbi qe [.tmp 65] _ ([(⟨(-1),i3,y3.Bk,(y4.Bh==1)⟩:Tl05Place)]:List Tl05Place) h rfl rfl rfl rfl rfl rfl rfl rfl rfl ⟨(qir (⟨(-1),i3,y3.Bk,(y4.Bh==1)⟩:Tl05Place)),trivial⟩ rfl fun w9 p11 S7 h=>Ag (h.pick [2] rfl) (Ao 17 262143 rfl ?_))
  obtain ⟨x5,hx2,hF⟩:=qf hF
  obtain ⟨g2,hx2⟩:=qdq hx2
  refine qgH qe 1 h rfl (h.sl 0 rfl).1 (h.sl 0 rfl).2 rfl rfl rfl rfl rfl rfl rfl rfl rfl g2 hx2 rfl fun w10 p12 k9 S8 h=>G0 524287 [18] (h.pick [2] rfl) rfl (Ad (X0 6 rfl ?_))
  replace h:=h.pick [1,2] rfl
  exact rK ⟨_,_,_,_,_,_,hF,rfl,h⟩ rfl
 refine qq rfl ?_
 obtain rfl:=qa hF;replace hF:=hK3
 refine X0 5 rfl ?_
 obtain rfl:=qa hF
 exact rO 0 h rfl ⟨rfl,trivial⟩
def qa5 (net:Int) (r1:(List Tl05Place)):Nat→(List Int)→Int→Option ((List Int) × Int)
 | 0,_,_=>none
 | n+1,x1,i1 =>
  bif decide (i1<(r1.length:Int)) then
   (
    (idx r1 i1).bind fun y1 =>
    bif (y1.net==net) then
     (idx r1 i1).bind fun y2 =>
     some (!y2.drives)
    else
     some false).bind fun b1 =>
   bif b1 then
    (appS x1 ([i1]:List Int)).bind fun x2 =>
    qa5 net r1 n x2 (W64 (i1+1))
   else
    qa5 net r1 n x1 (W64 (i1+1))
  else
   some (x1,i1)
def qfy (n:Nat) (d:qd) (net:Int):Option (List Int) :=
 (qe7 n d).bind fun r1 =>
 (qa5 net r1 n ([]:List Int) 0).bind fun o=>match o with
 | (x1,_) =>
  some x1
theorem qji {d:qd} {net:Int} (ha1:GoT.R w (old w) d cs1) {r:(List Int)} (hF:qfy n d net=some r):RetV Tryz.prog 133 [GoT.v qd cs1,.int .i64 net] w r:=by
 obtain ⟨p1,k1,p2,k2,p3,k3,rfl,s1,s2,s3⟩:=qag ha1
 refine zV 37 Tryz.func133 rfl fun h=>zSR (qy h rfl rfl fun w1 bb1 h=>X0 4 rfl (qbi qe [] _ ([]:List Int) h rfl rfl rfl rfl rfl rfl rfl rfl rfl trivial rfl fun w2 p4 S1 h=>X1 5 1 h rfl (zcL h hF (qiT (h.old ha1)) rfl fun r1 w3 S2 p5 k4 h hF=>X0 7 rfl ?_)))
 obtain ⟨o1,hF,hK1⟩:=qf hF
 refine qm ?_
 replace h:=h.pick [0,1] rfl
 refine rL (fun m e w'=>∃ (S3:Nat→Prop) (p6:Option Addr) (ln1:Nat) (k5:Nat) (x1:(List Int)) (i1:Int),qa5 net r1 m x1 i1=some o1∧e=[(1,.int .i64 net),(5,.slice p6 ln1 k5),(6,.slice p5 r1.length k4),(7,.int .i64 i1)]∧SH w w' [Ch.own S2 (r1:List Tl05Place) [.slice p5 r1.length k4],Ch.own S3 (x1:List Int) [.slice p6 ln1 k5]]) n ⟨_,_,_,_,_,_,hF,rfl,h⟩ rfl ?_
 rintro m1 e1 w4 ⟨S3,p6,ln1,k5,x1,i1,hF,rfl,h⟩
 obtain rfl:=(h.sl 1 rfl).2
 rcases m1 with _|m1
 ·cases hF
 refine X0 8 rfl (qh rfl hF ?_ ?_)<;>intro hF
 ·refine X0 4 rfl ?_
  obtain ⟨KF1,hKF1,o2,hF,hK2⟩:=bindE hF
  refine qcw (fun e w'=>∃ (b1:Bool),KF1 b1=some o1∧e=[(1,.int .i64 net),(5,.slice p6 x1.length k5),(6,.slice p5 r1.length k4),(7,.int .i64 i1),(31,.bool b1)]∧SH w w' [Ch.own S2 (r1:List Tl05Place) [.slice p5 r1.length k4],Ch.own S3 (x1:List Int) [.slice p6 x1.length k5]]) ?_ ?_
  ·refine X0 3 rfl ?_
   obtain ⟨y1,hy1,hF,he1,b2,_,q1,cs2,hp1,hq1,hr2,hc3⟩:=(h.sl 0 rfl).1.ix hF
   obtain rfl:=qhM hr2
   refine zx hp1 hq1 ⟨he1.1,qK he1.2.1 (h.sl 0 rfl).2⟩ rfl (zp1 rfl (zc 2 hc3 rfl (zp3 rfl (qg (t:=24) hF rfl ?_ ?_))))<;>intro hF
   ·refine X0 5 rfl ?_
    obtain ⟨y2,hy2,hF,he2,b3,_,q2,cs3,hp2,hq2,hr3,hc4⟩:=(h.sl 0 rfl).1.ix hF
    obtain rfl:=qhM hr3
    refine zx hp2 hq2 ⟨he2.1,qK he2.2.1 (h.sl 0 rfl).2⟩ rfl (X0 3 rfl (zc 3 hc4 rfl (X0 4 rfl ?_)))
    obtain rfl:=qa hF
    exact rG ⟨_,hK2,rfl,h⟩ rfl
   refine X0 8 rfl ?_
   obtain rfl:=qa hF
   exact rG ⟨_,hK2,rfl,h⟩ rfl
  rintro e2 w7 ⟨b1,hF,rfl,h⟩
  subst hKF1
  refine qh rfl hF ?_ ?_<;>intro hF
  ·refine X0 3 rfl (qbi qe [.tmp 33] _ ([i1]:List Int) h rfl rfl rfl rfl rfl rfl rfl rfl rfl ⟨rfl,trivial⟩ rfl fun w5 p7 S4 h=>?_)
   obtain ⟨x2,hx1,hF⟩:=qf hF
   obtain ⟨g1,hx1⟩:=qdq hx1
   refine qgH qe 2 h rfl (h.sl 0 rfl).1 (h.sl 0 rfl).2 rfl rfl rfl rfl rfl rfl rfl rfl rfl g1 hx1 rfl fun w6 p8 k6 S5 h=>X0 8 rfl ?_
   replace h:=h.pick [1,2] rfl
   exact rK ⟨_,_,_,_,_,_,hF,rfl,h⟩ rfl
  exact X0 7 rfl (rK ⟨_,_,_,_,_,_,hF,rfl,h⟩ rfl)
 refine qq rfl ?_
 obtain rfl:=qa hF;replace hF:=hK1
 refine X0 5 rfl ?_
 obtain rfl:=qa hF
 exact rO 1 h rfl ⟨rfl,trivial⟩
def qcF (b:qp):Nat→Int→Option (Flow Bool Int)
 | 0,_=>none
 | n+1,i1 =>
  bif decide (i1<(b.Aq.length:Int)) then
   (idx b.Aq i1).bind fun y1 =>
   (qfy n (⟨b.Ab.Aa,b.Ab.Ac,b.Ab.Af⟩:qd) i1).bind fun r1 =>
   (qgN n y1 (r1.length:Int)).bind fun r2 =>
   bif (!r2) then some (.ret false) else
   qcF b n (W64 (i1+1))
  else
   some (.nxt i1)
def qgg (n:Nat) (b:qp):Option Bool :=
 (
  (qfr n (⟨b.As.Aj⟩:qn) (⟨b.Ab.Aa,b.Ab.Ac,b.Ab.Af⟩:qd)).bind fun r3 =>
  bif (!r3) then some true else
  some ((b.Aq.length:Int) != (b.Ab.Ac.length:Int))).bind fun b1 =>
 bif b1 then some false else
 (qcF b n 0).bind fun o=>match o with
 | .ret r=>some r
 | .nxt _ =>
  some true
theorem qjO {b:qp} (ha1:GoT.R w (old w) b cs1) {r:Bool} (hF:qgg n b=some r):RetV Tryz.prog 51 [GoT.v qp cs1] w r:=by
 obtain ⟨p1,k1,p2,k2,p3,k3,p4,k4,p5,k5,rfl,s1,s2,s3,s4,s5⟩:=qay ha1
 refine zV 39 Tryz.func51 rfl fun h=>zSR (qy h rfl rfl fun w1 bb1 h=>X0 4 rfl ?_)
 obtain ⟨KF1,hKF1,o2,hF,hK2⟩:=bindE hF
 refine qcw (fun e w'=>∃ (b1:Bool),KF1 b1=some r∧e=[(1,.pointer (some ⟨bb1,0,none⟩)),(19,.bool b1)]∧SH w w' [Ch.box bb1 (qbw b p1 p2 p3 p4 p5 k1 k2 k3 k4 k5) 48]) ?_ ?_
 ·refine X2 5 0 0 h rfl (zcB h hF (qjn (qdC _ (h.oldS s1)) (qbs _ (h.oldS s2) (h.oldS s3) (h.oldS s4))) rfl fun r3 w6 h hF=>zp2 rfl (qg (t:=10) hF rfl ?_ ?_))<;>intro hF
  ·refine X0 10 rfl ?_
   obtain rfl:=qa hF
   exact rG ⟨_,hK2,rfl,h⟩ rfl
  refine X2 18 0 0 h rfl ?_
  obtain rfl:=qa hF
  exact rG ⟨_,hK2,rfl,h⟩ rfl
 rintro e2 w7 ⟨b1,hF,rfl,h⟩
 subst hKF1
 refine qh rfl hF ?_ ?_<;>intro hF
 ·exact X0 4 rfl (rb h hF rfl)
 refine X0 6 rfl ?_
 obtain ⟨o1,hF,hK1⟩:=qf hF
 refine qm (rL (fun m e w'=>∃ (i1:Int),qcF b m i1=some o1∧e=[(1,.pointer (some ⟨bb1,0,none⟩)),(3,.int .i64 i1)]∧SH w w' [Ch.box bb1 (qbw b p1 p2 p3 p4 p5 k1 k2 k3 k4 k5) 48]) n ⟨_,hF,rfl,h⟩ rfl ?_)
 rintro m1 e1 w2 ⟨i1,hF,rfl,h⟩
 rcases m1 with _|m1
 ·cases hF
 refine X1 9 0 h rfl (qh rfl hF ?_ ?_)<;>intro hF
 ·refine X0 4 rfl (rA [] [0] h rfl fun w3 h=>M1 7 [0,1,2] 0 (h.pick [0] rfl) rfl ?_)
  obtain ⟨y1,hy1,hF,he1,b2,_,q1,cs2,hp1,hq1,hr1,hc3⟩:=s5.ix hF
  obtain ⟨p6,k6,p7,k7,p8,k8,p9,k9,rfl,s6,s7,s8,s9⟩:=qaS hr1
  refine Ae 3 15 hp1 hq1 he1 (h.pick [0] rfl) rfl (Al 4 31 0 hc3 (h.pick [0] rfl) rfl (M1 255 [5,6,7] 0 (h.pick [0] rfl) rfl (Ao 8 511 rfl (zcL h hF (qji (qbs _ (h.oldS s2) (h.oldS s3) (h.oldS s4))) rfl fun r1 w4 S1 p10 k10 h hF=>G0 1023 [9] (h.pick [1] rfl) rfl (Ao 10 2047 rfl (zcB h hF (qkV (qgn y1 (h.oldS s6) (h.oldS s7) (h.oldS s8) (h.oldS s9))) rfl fun r2 w5 h hF=>G0 4095 [11] (h.pick [1] rfl) rfl (Ad (qh rfl hF ?_ ?_))))))))<;>intro hF
  ·refine X0 4 rfl ?_
   obtain rfl:=qa hF;replace hF:=hK1
   exact rb h hF rfl
  refine X0 7 rfl ?_
  replace h:=h.pick [1] rfl
  exact rK ⟨_,hF,rfl,h⟩ rfl
 refine qq rfl ?_
 obtain rfl:=qa hF;replace hF:=hK1
 exact X0 4 rfl (rb h hF rfl)
def qal (_:Nat) (x:Int) (low:Int) (high:Int):Option Bool :=
 bif decide (x ≥ low) then some (decide (x≤high)) else
 some false
theorem qW {x:Int} {low:Int} {high:Int}  {r:Bool} (hF:qal n x low high=some r):RetV Tryz.prog 114 [.int .i64 x,.int .i64 low,.int .i64 high] w r:=by
 refine zV 15 Tryz.func114 rfl fun h=>X0 10 rfl (qg (t:=10) hF rfl ?_ ?_)<;>intro hF
 ·exact X0 9 rfl (rb h hF rfl)
 exact X0 6 rfl (rb h hF rfl)
def qeM (_:Nat) (list:(List ByteArray)):Option Int :=
 some (list.length:Int)
theorem qhC {list:(List ByteArray)} (ha1:GoT.R w (old w) list cs1) {r:Int} (hF:qeM n list=some r):RetV Tryz.prog 160 [GoT.v (List ByteArray) cs1] w r:=by
 obtain ⟨p1,k1,rfl,s1⟩:=ha1
 exact zV 5 Tryz.func160 rfl fun h=>X0 10 rfl (ri h hF rfl)
def qaV (n:Nat) (d:qd) (net:Int):Option Bool :=
 (qeM n d.Ac).bind fun r1 =>
 (qal n net 0 (W64 (r1-1))).bind fun r2 =>
 some r2
theorem qbK {d:qd} {net:Int} (ha1:GoT.R w (old w) d cs1) {r:Bool} (hF:qaV n d net=some r):RetV Tryz.prog 78 [GoT.v qd cs1,.int .i64 net] w r:=by
 obtain ⟨p1,k1,p2,k2,p3,k3,rfl,s1,s2,s3⟩:=qag ha1
 exact zV 11 Tryz.func78 rfl fun h=>zSR (qy h rfl rfl fun w1 bb1 h=>X1 7 0 h rfl (zcI h hF (qhC ⟨_,_,rfl,(h.oldS s2)⟩) rfl fun r1 w2 h hF=>zp1 rfl (zcB h hF qW rfl fun r2 w3 h hF=>X0 2 rfl (rb h hF rfl))))
def qe8 (_:Nat) (s cutset:ByteArray):Option ByteArray :=
 if s.size≤9223372036854775807∧cutset.size<4294967281∧cutset.data.toList.all (fun b=>decide (b.toNat<128))=true then some ⟨(Lib.trimS s.data.toList cutset.data.toList).toArray⟩ else none
theorem qj2 {s cutset:ByteArray} {r:ByteArray} (hF:qe8 n s cutset=some r):RetV Tryz.prog 239 [.string s,.string cutset] w r:=by
 unfold qe8 at hF
 split at hF
 ·rename_i hh
  obtain rfl:=qa hF
  refine (Tryz.strings_Trim_any s cutset w hh.1 hh.2.1 hh.2.2).mono ?_
  rintro e w' ⟨rfl,hB⟩
  exact ⟨_,rfl,hB,[.string _],rfl,qnl _ _⟩
 cases hF
def qdU (_:Nat) (s:ByteArray) (c:(IntK .u8)):Option Int :=
 some (Lib.indexByte s.data.toList c.val.toNat.toUInt8)
theorem qhI {s:ByteArray} {c:(IntK .u8)} {r:Int} (hF:qdU n s c=some r):RetV Tryz.prog 240 [.string s,.int .u8 c.val] w r:=by
 obtain rfl:=qa hF
 refine (Tryz.strings_IndexByte s c.val w).mono ?_
 rintro e w' ⟨rfl,rfl⟩
 exact ⟨_,rfl,Below.refl _ _,[.int .i64 _],rfl,qoK _ _⟩
def qfF (n:Nat) (s:ByteArray):Option Bool :=
 (qal n (s.size:Int) 1 8).bind fun r1 =>
 bif r1 then
  (qe8 n s (⟨#[97,98,99,100,101,102,103,104,105,106,107,108,109,110,111,112,113,114,115,116,117,118,119,120,121,122,48,49,50,51,52,53,54,55,56,57]⟩:ByteArray)).bind fun r2 =>
  bif (r2.toList==(⟨#[]⟩:ByteArray).toList) then
   (atS s 0).bind fun y1 =>
   (qdU n (⟨#[97,98,99,100,101,102,103,104,105,106,107,108,109,110,111,112,113,114,115,116,117,118,119,120,121,122]⟩:ByteArray) (⟨y1⟩:IntK .u8)).bind fun r3 =>
   some (decide (r3 ≥ 0))
  else
   some false
 else
  some false
theorem qhX {s:ByteArray}  {r:Bool} (hF:qfF n s=some r):RetV Tryz.prog 178 [.string s] w r:=by
 refine zV 17 Tryz.func178 rfl fun h=>X0 8 rfl (zcB h hF qW rfl fun r1 w1 h hF=>zp1 rfl (qg (t:=6) hF rfl ?_ ?_))<;>intro hF
 ·refine X0 3 rfl (zcS h hF qj2 rfl fun r2 w2 h hF=>X0 4 rfl (qg (t:=11) hF rfl ?_ ?_))<;>intro hF
  ·refine X0 3 rfl ?_
   obtain ⟨y1,hx1,hF⟩:=qf hF
   have g1:=qhW hx1
   exact r_v (qhH qe g1 rfl rfl rfl rfl) rfl (X0 1 rfl (zcI h hF qhI rfl fun r3 w3 h hF=>X0 5 rfl (rb h hF rfl)))
  exact X0 7 rfl (rb h hF rfl)
 exact X0 12 rfl (rb h hF rfl)
def qa8 (_:Nat) (list:(List qF)):Option Int :=
 some (list.length:Int)
theorem qeO {list:(List qF)} (ha1:GoT.R w (old w) list cs1) {r:Int} (hF:qa8 n list=some r):RetV Tryz.prog 254 [GoT.v (List qF) cs1] w r:=by
 obtain ⟨p1,k1,rfl,s1⟩:=ha1
 exact zV 5 Tryz.func254 rfl fun h=>X0 10 rfl (ri h hF rfl)
def qaQ (s:(List ByteArray)) (v:ByteArray):Nat→Int→Option (Flow Int Int)
 | 0,_=>none
 | n+1,i1 =>
  bif decide (i1<(s.length:Int)) then
   (idx s i1).bind fun y1 =>
   bif (v.toList==y1.toList) then some (.ret i1) else
   qaQ s v n (W64 (i1+1))
  else
   some (.nxt i1)
def qc4 (n:Nat) (s:(List ByteArray)) (v:ByteArray):Option Int :=
 (qaQ s v n 0).bind fun o=>match o with
 | .ret r=>some r
 | .nxt _ =>
  some (-1)
theorem qhs {s:(List ByteArray)} {v:ByteArray} (ha1:GoT.R w (old w) s cs1) {r:Int} (hF:qc4 n s v=some r):RetV Tryz.prog 323 [GoT.v (List ByteArray) cs1,.string v] w r:=by
 obtain ⟨p1,k1,rfl,s1⟩:=ha1
 refine zV 19 Tryz.func323 rfl fun h=>X0 11 rfl ?_
 obtain ⟨o1,hF,hK1⟩:=qf hF
 refine qm (rL (fun m e w'=>∃ (i1:Int),qaQ s v m i1=some o1∧e=[(0,.slice p1 s.length k1),(1,.string v),(7,.int .i64 (s.length:Int)),(8,.int .i64 i1)]∧SH w w' []) n ⟨_,hF,rfl,h⟩ rfl ?_)
 rintro m1 e1 w1 ⟨i1,hF,rfl,h⟩
 rcases m1 with _|m1
 ·cases hF
 refine X0 5 rfl (qh rfl hF ?_ ?_)<;>intro hF
 ·refine X0 13 rfl ?_
  obtain ⟨y1,hy1,hF,he1,b1,_,q1,cs2,hp1,hq1,rfl,hc2⟩:=s1.ix hF
  refine zxe hp1 hq1 he1 rfl (zc 0 (hc2.below h.below) rfl (X0 2 rfl (qh rfl hF ?_ ?_)))<;>intro hF
  ·refine X0 5 rfl ?_
   obtain rfl:=qa hF;replace hF:=hK1
   exact ri h hF rfl
  exact X0 6 rfl (rK ⟨_,hF,rfl,h⟩ rfl)
 refine qq rfl ?_
 obtain rfl:=qa hF;replace hF:=hK1
 exact X0 4 rfl (ri h hF rfl)
def qb8 (n:Nat) (s:(List ByteArray)) (v:ByteArray):Option Bool :=
 (qc4 n s v).bind fun r1 =>
 some (decide (r1 ≥ 0))
theorem qgL {s:(List ByteArray)} {v:ByteArray} (ha1:GoT.R w (old w) s cs1) {r:Bool} (hF:qb8 n s v=some r):RetV Tryz.prog 303 [GoT.v (List ByteArray) cs1,.string v] w r:=by
 obtain ⟨p1,k1,rfl,s1⟩:=ha1
 exact zV 9 Tryz.func303 rfl fun h=>X0 8 rfl (zcI h hF (qhs ⟨_,_,rfl,(h.oldS s1)⟩) rfl fun r1 w1 h hF=>X0 3 rfl (rb h hF rfl))
def qci (list:(List ByteArray)):Nat→Int→Option (Flow Bool Int)
 | 0,_=>none
 | n+1,i1 =>
  bif decide (i1<(list.length:Int)) then
   (idx list i1).bind fun y1 =>
   (qfF n y1).bind fun r1 =>
   bif (!r1) then some (.ret false) else
   (subS list 0 i1).bind fun x1 =>
   (qb8 n x1 y1).bind fun r2 =>
   bif r2 then some (.ret false) else
   qci list n (W64 (i1+1))
  else
   some (.nxt i1)
def qcd (n:Nat) (list:(List ByteArray)):Option Bool :=
 (qci list n 0).bind fun o=>match o with
 | .ret r=>some r
 | .nxt _ =>
  some true
theorem qdf {list:(List ByteArray)} (ha1:GoT.R w (old w) list cs1) {r:Bool} (hF:qcd n list=some r):RetV Tryz.prog 262 [GoT.v (List ByteArray) cs1] w r:=by
 obtain ⟨p1,k1,rfl,s1⟩:=ha1
 refine zV 23 Tryz.func262 rfl fun h=>X0 11 rfl ?_
 obtain ⟨o1,hF,hK1⟩:=qf hF
 refine qm (rL (fun m e w'=>∃ (i1:Int),qci list m i1=some o1∧e=[(0,.slice p1 list.length k1),(5,.slice p1 list.length k1),(6,.int .i64 (list.length:Int)),(7,.int .i64 i1)]∧SH w w' []) n ⟨_,hF,rfl,h⟩ rfl ?_)
 rintro m1 e1 w1 ⟨i1,hF,rfl,h⟩
 rcases m1 with _|m1
 ·cases hF
 refine X0 5 rfl (qh rfl hF ?_ ?_)<;>intro hF
 ·refine X0 6 rfl ?_
  obtain ⟨y1,hy1,hF,he1,b1,_,q1,cs2,hp1,hq1,rfl,hc2⟩:=s1.ix hF
  refine zxe hp1 hq1 he1 rfl (zc 0 (hc2.below h.below) rfl (X0 6 rfl (zcB h hF qhX rfl fun r1 w2 h hF=>zp2 rfl (qg (t:=15) hF rfl ?_ ?_))))<;>intro hF
  ·refine X0 7 rfl (qdv rfl rfl (X0 4 rfl ?_))
   obtain rfl:=qa hF;replace hF:=hK1
   exact rb h hF rfl
  refine X0 5 rfl ?_
  obtain ⟨x1,hx1,hF⟩:=qf hF
  obtain ⟨p2,k2,hp2,hk1,hl1,g1⟩:=qoR (h.oldS s1) hx1
  refine r_v (qms qe rfl rfl rfl (qo6 g1 rfl) hp2 hk1 hl1 rfl rfl rfl rfl) rfl ?_
  have s2:=qov s1 hx1 hp2 hk1
  refine X0 3 rfl (zcB h hF (qgL ⟨_,_,rfl,(h.oldS s2)⟩) rfl fun r2 w3 h hF=>X0 2 rfl (qh rfl hF ?_ ?_))<;>intro hF
  ·refine X0 4 rfl ?_
   obtain rfl:=qa hF;replace hF:=hK1
   exact rb h hF rfl
  exact X0 6 rfl (rK ⟨_,hF,rfl,h⟩ rfl)
 refine qq rfl ?_
 obtain rfl:=qa hF;replace hF:=hK1
 exact X0 4 rfl (rb h hF rfl)
def qbu (list:(List qF)):Nat→(List ByteArray)→Int→Option (Flow Bool ((List ByteArray) × Int))
 | 0,_,_=>none
 | n+1,x1,i1 =>
  bif decide (i1<(list.length:Int)) then
   (idx list i1).bind fun y1 =>
   (appS x1 ([y1.Am]:List ByteArray)).bind fun x2 =>
   bif (i1==(W64 ((list.length:Int)-1))) then
    bif (y1.Bh != 2) then some (.ret false) else
    bif (y1.Bg != 0) then some (.ret false) else
    bif y1.Ba then some (.ret false) else
    qbu list n x2 (W64 (i1+1))
   else
    bif (y1.Bh != 1) then some (.ret false) else
    (qal n y1.Bg 0 500).bind fun r1 =>
    bif (!r1) then some (.ret false) else
    qbu list n x2 (W64 (i1+1))
  else
   some (.nxt (x1,i1))
def qgi (n:Nat) (list:(List qF)):Option Bool :=
 (qbu list n ([]:List ByteArray) 0).bind fun o=>match o with
 | .ret r=>some r
 | .nxt (x1,_) =>
  (qa8 n list).bind fun r2 =>
  (qal n r2 2 5).bind fun r3 =>
  bif r3 then
   (qcd n x1).bind fun r4 =>
   some r4
  else
   some false
theorem qjZ {list:(List qF)} (ha1:GoT.R w (old w) list cs1) {r:Bool} (hF:qgi n list=some r):RetV Tryz.prog 300 [GoT.v (List qF) cs1] w r:=by
 obtain ⟨p1,k1,rfl,s1⟩:=ha1
 refine zV 52 Tryz.func300 rfl fun h=>X0 15 rfl ?_
 replace h:=h.nil (α:=ByteArray)
 obtain ⟨o1,hF,hK1⟩:=qf hF
 refine qm (rL (fun m e w'=>∃ (S1:Nat→Prop) (p2:Option Addr) (ln1:Nat) (k2:Nat) (x1:(List ByteArray)) (i1:Int),qbu list m x1 i1=some o1∧e=[(0,.slice p1 list.length k1),(3,.slice p2 ln1 k2),(6,.slice p1 list.length k1),(7,.int .i64 (list.length:Int)),(8,.int .i64 i1)]∧SH w w' [Ch.own S1 (x1:List ByteArray) [.slice p2 ln1 k2]]) n ⟨_,_,_,_,_,_,hF,rfl,h⟩ rfl ?_)
 rintro m1 e1 w1 ⟨S1,p2,ln1,k2,x1,i1,hF,rfl,h⟩
 obtain rfl:=(h.sl 0 rfl).2
 rcases m1 with _|m1
 ·cases hF
 refine X0 5 rfl (qh rfl hF ?_ ?_)<;>intro hF
 ·refine X0 6 rfl ?_
  obtain ⟨y1,hy1,hF,he1,b1,_,q1,cs2,hp1,hq1,hr1,hc2⟩:=s1.ix hF
  obtain rfl:=qai hr1
  refine zxe hp1 hq1 he1 rfl (zc 0 (hc2.below h.below) rfl (qM qe h rfl rfl rfl fun w2 bb1 h=>zp1 rfl (zs 0 h rfl fun w3 h=>X1 6 0 h rfl (qbi qe [.tmp 15] _ ([y1.Am]:List ByteArray) h rfl rfl rfl rfl rfl rfl rfl rfl rfl ⟨rfl,trivial⟩ rfl fun w4 p3 S2 h=>?_))))
  obtain ⟨x2,hx1,hF⟩:=qf hF
  obtain ⟨g1,hx1⟩:=qdq hx1
  refine qgH qe 2 h rfl (h.sl 0 rfl).1 (h.sl 0 rfl).2 rfl rfl rfl rfl rfl rfl rfl rfl rfl g1 hx1 rfl fun w5 p4 k3 S3 h=>X0 10 rfl (qh rfl hF ?_ ?_)<;>intro hF
  ·refine X1 6 1 h rfl (qg (t:=26) hF rfl ?_ ?_)<;>intro hF
   ·refine X0 9 rfl (qdv rfl rfl (X0 4 rfl ?_))
    obtain rfl:=qa hF;replace hF:=hK1
    exact rb h hF rfl
   refine X1 8 1 h rfl (qg (t:=31) hF rfl ?_ ?_)<;>intro hF
   ·refine X0 4 rfl (qdv rfl rfl (X0 4 rfl ?_))
    obtain rfl:=qa hF;replace hF:=hK1
    exact rb h hF rfl
   refine X1 6 1 h rfl (qh rfl hF ?_ ?_)<;>intro hF
   ·refine X0 4 rfl ?_
    obtain rfl:=qa hF;replace hF:=hK1
    exact rb h hF rfl
   refine X0 6 rfl ?_
   replace h:=h.pick [2] rfl
   exact rK ⟨_,_,_,_,_,_,hF,rfl,h⟩ rfl
  refine X1 6 1 h rfl (qg (t:=38) hF rfl ?_ ?_)<;>intro hF
  ·refine X0 6 rfl (qdv rfl rfl (X0 4 rfl ?_))
   obtain rfl:=qa hF;replace hF:=hK1
   exact rb h hF rfl
  refine X1 5 1 h rfl (zcB h hF qW rfl fun r1 w6 h hF=>X0 4 rfl (qh rfl hF ?_ ?_))<;>intro hF
  ·refine X0 4 rfl ?_
   obtain rfl:=qa hF;replace hF:=hK1
   exact rb h hF rfl
  refine X0 6 rfl ?_
  replace h:=h.pick [2] rfl
  exact rK ⟨_,_,_,_,_,_,hF,rfl,h⟩ rfl
 refine qq rfl ?_
 obtain rfl:=qa hF;replace hF:=hK1
 refine X0 3 rfl (zcI h hF (qeO ⟨_,_,rfl,(h.oldS s1)⟩) rfl fun r2 w7 h hF=>zcB h hF qW rfl fun r3 w8 h hF=>zp1 rfl (qg (t:=48) hF rfl ?_ ?_))<;>intro hF
 ·exact X0 3 rfl (zcB h hF (qdf (h.own 0 rfl)) rfl fun r4 w9 h hF=>X0 3 rfl (rb h hF rfl))
 exact X0 5 rfl (rb h hF rfl)
def qcv (n:Nat) (c:qk):Option Int :=
 (qa8 n c.Ai).bind fun r1 =>
 some (W64 (r1-1))
theorem qeo {c:qk} (ha1:GoT.R w (old w) c cs1) {r:Int} (hF:qcv n c=some r):RetV Tryz.prog 200 [GoT.v qk cs1] w r:=by
 obtain ⟨p1,k1,p2,k2,p3,k3,rfl,s1,s2,s3⟩:=qI ha1
 exact zV 7 Tryz.func200 rfl fun h=>zSR (qy h rfl rfl fun w1 bb1 h=>X1 6 0 h rfl (zcI h hF (qeO ⟨_,_,rfl,(h.oldS s1)⟩) rfl fun r1 w2 h hF=>X0 3 rfl (ri h hF rfl)))
def qge (_:Nat) (kind:Int):Option Bool :=
 bif (kind==4) then some true else
 some (kind==5)
theorem qj4 {kind:Int}  {r:Bool} (hF:qge n kind=some r):RetV Tryz.prog 334 [.int .i64 kind] w r:=by
 refine zV 9 Tryz.func334 rfl fun h=>X0 9 rfl (qg (t:=5) hF rfl ?_ ?_)<;>intro hF
 ·exact X0 5 rfl (rb h hF rfl)
 exact X0 7 rfl (rb h hF rfl)
def qd5 (n:Nat) (a_n:Int) (v0:Int) (v1:Int):Option Bool :=
 (qal n a_n v0 v1).bind fun r1 =>
 some (!r1)
theorem qik {a_n:Int} {v0:Int} {v1:Int} {p1:Option Addr} (ha1:GoT.R w (old w) (some v0) [.pointer p1]) {p2:Option Addr} (ha2:GoT.R w (old w) (some v1) [.pointer p2]) {r:Bool} (hF:qd5 n a_n v0 v1=some r):RetV Tryz.prog 180 [.int .i64 a_n,.pointer p1,.pointer p2] w r:=by
 obtain ⟨b1,o_1,cs1,rfl,-,hr1,hc1⟩:=PtR.get ha1 rfl
 obtain rfl:=hr1
 obtain ⟨b2,o_2,cs2,rfl,-,hr2,hc2⟩:=PtR.get ha2 rfl
 obtain rfl:=hr2
 exact zV 10 Tryz.func180 rfl fun h=>X0 7 rfl (zc 0 (hc1.below h.below) rfl (zc 0 (hc2.below h.below) rfl (zcB h hF qW rfl fun r1 w1 h hF=>X0 3 rfl (rb h hF rfl))))
def qD (s:(List Int)) (f_0:Int) (f_1:Int):Nat→Int→Option (Flow Int Int)
 | 0,_=>none
 | n+1,i1 =>
  bif decide (i1<(s.length:Int)) then
   (idx s i1).bind fun y1 =>
   (qd5 n y1 f_0 f_1).bind fun r1 =>
   bif r1 then some (.ret i1) else
   qD s f_0 f_1 n (W64 (i1+1))
  else
   some (.nxt i1)
def qad (n:Nat) (s:(List Int)) (f_0:Int) (f_1:Int):Option Int :=
 (qD s f_0 f_1 n 0).bind fun o=>match o with
 | .ret r=>some r
 | .nxt _ =>
  some (-1)
theorem qdr {s:(List Int)} {f_0:Int} {f_1:Int} (ha1:GoT.R w (old w) s cs1) {p2:Option Addr} (ha2:GoT.R w (old w) (some f_0) [.pointer p2]) {p3:Option Addr} (ha3:GoT.R w (old w) (some f_1) [.pointer p3]) {r:Int} (hF:qad n s f_0 f_1=some r):RetV Tryz.prog 176 [GoT.v (List Int) cs1,.func (.func 180) #[] #[.pointer p2,.pointer p3]] w r:=by
 obtain ⟨p1,k1,rfl,s1⟩:=ha1
 obtain ⟨b1,o_1,cs2,rfl,-,hr1,hc1⟩:=PtR.get ha2 rfl
 obtain rfl:=hr1
 obtain ⟨b2,o_2,cs3,rfl,-,hr2,hc2⟩:=PtR.get ha3 rfl
 obtain rfl:=hr2
 refine zV 19 Tryz.func176 rfl fun h=>X0 11 rfl ?_
 obtain ⟨o1,hF,hK1⟩:=qf hF
 refine qm (rL (fun m e w'=>∃ (i1:Int),qD s f_0 f_1 m i1=some o1∧e=[(0,.slice p1 s.length k1),(1,.func (.func 180) #[] #[.pointer (some ⟨b1,o_1,none⟩),.pointer (some ⟨b2,o_2,none⟩)]),(7,.int .i64 (s.length:Int)),(8,.int .i64 i1)]∧SH w w' []) n ⟨_,hF,rfl,h⟩ rfl ?_)
 rintro m1 e1 w1 ⟨i1,hF,rfl,h⟩
 rcases m1 with _|m1
 ·cases hF
 refine X0 5 rfl (qh rfl hF ?_ ?_)<;>intro hF
 ·refine X0 13 rfl ?_
  obtain ⟨y1,hy1,hF,he1,b3,_,q1,cs4,hp1,hq1,rfl,hc4⟩:=s1.ix hF
  refine zxe hp1 hq1 he1 rfl (zc 0 (hc4.below h.below) rfl (zcB h hF (qik (h.old ha2) (h.old ha3)) rfl fun r1 w2 h hF=>qd1 (qh rfl hF ?_ ?_)))<;>intro hF
  ·refine X0 5 rfl ?_
   obtain rfl:=qa hF;replace hF:=hK1
   exact ri h hF rfl
  exact X0 6 rfl (rK ⟨_,hF,rfl,h⟩ rfl)
 refine qq rfl ?_
 obtain rfl:=qa hF;replace hF:=hK1
 exact X0 4 rfl (ri h hF rfl)
def qaz (n:Nat) (s:(List Int)) (f_0:Int) (f_1:Int):Option Bool :=
 (qad n s f_0 f_1).bind fun r1 =>
 some (decide (r1 ≥ 0))
theorem qc2 {s:(List Int)} {f_0:Int} {f_1:Int} (ha1:GoT.R w (old w) s cs1) {p2:Option Addr} (ha2:GoT.R w (old w) (some f_0) [.pointer p2]) {p3:Option Addr} (ha3:GoT.R w (old w) (some f_1) [.pointer p3]) {r:Bool} (hF:qaz n s f_0 f_1=some r):RetV Tryz.prog 93 [GoT.v (List Int) cs1,.func (.func 180) #[] #[.pointer p2,.pointer p3]] w r:=by
 obtain ⟨p1,k1,rfl,s1⟩:=ha1
 obtain ⟨b1,o_1,cs2,rfl,-,hr1,hc1⟩:=PtR.get ha2 rfl
 obtain rfl:=hr1
 obtain ⟨b2,o_2,cs3,rfl,-,hr2,hc2⟩:=PtR.get ha3 rfl
 obtain rfl:=hr2
 exact zV 9 Tryz.func93 rfl fun h=>X0 8 rfl (zcI h hF (qdr ⟨_,_,rfl,(h.oldS s1)⟩ (h.old ha2) (h.old ha3)) rfl fun r1 w1 h hF=>X0 3 rfl (rb h hF rfl))
def qaY (n:Nat) (list:(List Int)) (low:Int) (high:Int):Option Bool :=
 (qaz n list low high).bind fun r1 =>
 some (!r1)
theorem qbm {list:(List Int)} {low:Int} {high:Int} (ha1:GoT.R w (old w) list cs1) {r:Bool} (hF:qaY n list low high=some r):RetV Tryz.prog 98 [GoT.v (List Int) cs1,.int .i64 low,.int .i64 high] w r:=by
 obtain ⟨p1,k1,rfl,s1⟩:=ha1
 exact zV 11 Tryz.func98 rfl fun h=>zSR (qy h rfl rfl fun w1 bb1 h=>qy h rfl rfl fun w2 bb2 h=>X0 6 rfl (zcB h hF (qc2 ⟨_,_,rfl,(h.oldS s1)⟩ (qg9 (x:=low) 1 h rfl rfl) (qg9 (x:=high) 0 h rfl rfl)) rfl fun r1 w3 h hF=>X0 3 rfl (rb h hF rfl)))
def qaw (list:(List Int)):Nat→Int→Option (Flow Bool Int)
 | 0,_=>none
 | n+1,i1 =>
  bif decide (i1<(list.length:Int)) then
   (idx list (W64 (i1-1))).bind fun y1 =>
   (idx list i1).bind fun y2 =>
   bif decide (y1 ≥ y2) then some (.ret false) else
   qaw list n (W64 (i1+1))
  else
   some (.nxt i1)
def qcT (n:Nat) (list:(List Int)):Option Bool :=
 (qaw list n 1).bind fun o=>match o with
 | .ret r=>some r
 | .nxt _ =>
  some true
theorem qfH {list:(List Int)} (ha1:GoT.R w (old w) list cs1) {r:Bool} (hF:qcT n list=some r):RetV Tryz.prog 145 [GoT.v (List Int) cs1] w r:=by
 obtain ⟨p1,k1,rfl,s1⟩:=ha1
 refine zV 20 Tryz.func145 rfl fun h=>X0 9 rfl ?_
 obtain ⟨o1,hF,hK1⟩:=qf hF
 refine qm (rL (fun m e w'=>∃ (i1:Int),qaw list m i1=some o1∧e=[(0,.slice p1 list.length k1),(3,.int .i64 i1)]∧SH w w' []) n ⟨_,hF,rfl,h⟩ rfl ?_)
 rintro m1 e1 w1 ⟨i1,hF,rfl,h⟩
 rcases m1 with _|m1
 ·cases hF
 refine X0 8 rfl (qh rfl hF ?_ ?_)<;>intro hF
 ·refine X0 4 rfl (rD (zd3 rfl ?_))
  obtain ⟨y1,hy1,hF,he1,b1,_,q1,cs2,hp1,hq1,rfl,hc2⟩:=s1.ix hF
  refine zdxe hp1 hq1 he1 rfl (zdc 0 (hc2.below h.below) rfl (zd2 rfl ?_))
  obtain ⟨y2,hy2,hF,he2,b2,_,q2,cs3,hp2,hq2,rfl,hc3⟩:=s1.ix hF
  refine zdxe hp2 hq2 he2 rfl (zdc 0 (hc3.below h.below) rfl (zd1 rfl (dN h fun w2 h=>qh rfl hF ?_ ?_)))<;>intro hF
  ·refine X0 4 rfl ?_
   obtain rfl:=qa hF;replace hF:=hK1
   exact rb h hF rfl
  exact X0 7 rfl (rK ⟨_,hF,rfl,h⟩ rfl)
 refine qq rfl ?_
 obtain rfl:=qa hF;replace hF:=hK1
 exact X0 4 rfl (rb h hF rfl)
def qaU (_:Nat) (list:(List Int)):Option Int :=
 some (list.length:Int)
theorem qbJ {list:(List Int)} (ha1:GoT.R w (old w) list cs1) {r:Int} (hF:qaU n list=some r):RetV Tryz.prog 188 [GoT.v (List Int) cs1] w r:=by
 obtain ⟨p1,k1,rfl,s1⟩:=ha1
 exact zV 5 Tryz.func188 rfl fun h=>X0 10 rfl (ri h hF rfl)
def qfJ (n:Nat) (list:(List Int)):Option Bool :=
 (qaU n list).bind fun r1 =>
 (qal n r1 1 4).bind fun r2 =>
 bif r2 then
  (qaY n list 0 100000).bind fun r3 =>
  bif r3 then
   (qcT n list).bind fun r4 =>
   some r4
  else
   some false
 else
  some false
theorem qhS {list:(List Int)} (ha1:GoT.R w (old w) list cs1) {r:Bool} (hF:qfJ n list=some r):RetV Tryz.prog 354 [GoT.v (List Int) cs1] w r:=by
 obtain ⟨p1,k1,rfl,s1⟩:=ha1
 refine zV 14 Tryz.func354 rfl fun h=>X0 7 rfl (zcI h hF (qbJ ⟨_,_,rfl,(h.oldS s1)⟩) rfl fun r1 w1 h hF=>zcB h hF qW rfl fun r2 w2 h hF=>zp1 rfl (qg (t:=6) hF rfl ?_ ?_))<;>intro hF
 ·refine X0 3 rfl (zcB h hF (qbm ⟨_,_,rfl,(h.oldS s1)⟩) rfl fun r3 w3 h hF=>zp2 rfl (qg (t:=10) hF rfl ?_ ?_))<;>intro hF
  ·exact X0 3 rfl (zcB h hF (qfH ⟨_,_,rfl,(h.oldS s1)⟩) rfl fun r4 w4 h hF=>X0 3 rfl (rb h hF rfl))
  exact X0 5 rfl (rb h hF rfl)
 exact X0 9 rfl (rb h hF rfl)
def qgk (n:Nat) (t:ql):Option Bool :=
 (qfJ n t.Ay).bind fun r1 =>
 bif r1 then
  (qfJ n t.Av).bind fun r2 =>
  bif r2 then
   bif ((t.Ap.length:Int)==(W64 ((t.Ay.length:Int)*(t.Av.length:Int)))) then
    (qaY n t.Ap (-1000000) 1000000).bind fun r3 =>
    some r3
   else
    some false
  else
   some false
 else
  some false
theorem qjP {t:ql} (ha1:GoT.R w (old w) t cs1) {r:Bool} (hF:qgk n t=some r):RetV Tryz.prog 348 [GoT.v ql cs1] w r:=by
 obtain ⟨p1,k1,p2,k2,p3,k3,rfl,s1,s2,s3⟩:=qau ha1
 refine zV 29 Tryz.func348 rfl fun h=>zSR (qy h rfl rfl fun w1 bb1 h=>X1 6 0 h rfl (zcB h hF (qhS ⟨_,_,rfl,(h.oldS s1)⟩) rfl fun r1 w2 h hF=>zp1 rfl (qg (t:=6) hF rfl ?_ ?_)))<;>intro hF
 ·refine X1 5 0 h rfl (zcB h hF (qhS ⟨_,_,rfl,(h.oldS s2)⟩) rfl fun r2 w3 h hF=>zp2 rfl (qg (t:=11) hF rfl ?_ ?_))<;>intro hF
  ·refine X3 24 0 0 0 h rfl (qg (t:=24) hF rfl ?_ ?_)<;>intro hF
   ·exact X1 5 0 h rfl (zcB h hF (qbm ⟨_,_,rfl,(h.oldS s3)⟩) rfl fun r3 w4 h hF=>X0 3 rfl (rb h hF rfl))
   exact X0 6 rfl (rb h hF rfl)
  exact X0 19 rfl (rb h hF rfl)
 exact X0 24 rfl (rb h hF rfl)
def qbp (x:(List Int)):Nat→Int→Int→Option (Int × Int)
 | 0,_,_=>none
 | n+1,i1,i2 =>
  bif decide (i2<(x.length:Int)) then
   (idx x i2).bind fun y2 =>
   qbp x n (if y2<i1 then y2 else i1) (W64 (i2+1))
  else
   some (i1,i2)
def qeh (n:Nat) (x:(List Int)):Option Int :=
 (
  bif decide ((x.length:Int)<1) then none else
  some ()).bind fun _ =>
 (idx x 0).bind fun y1 =>
 (qbp x n y1 1).bind fun o=>match o with
 | (i1,_) =>
  some i1
theorem qim {x:(List Int)} (ha1:GoT.R w (old w) x cs1) {r:Int} (hF:qeh n x=some r):RetV Tryz.prog 349 [GoT.v (List Int) cs1] w r:=by
 obtain ⟨p1,k1,rfl,s1⟩:=ha1
 refine zV 25 Tryz.func349 rfl fun h=>X0 11 rfl ?_
 obtain ⟨KF1,hKF1,o2,hF,hK2⟩:=bindE hF
 refine qcw (fun e w'=>KF1 ()=some r∧e=[(0,.slice p1 x.length k1)]∧SH w w' []) ?_ ?_
 ·refine qh rfl hF ?_ ?_<;>intro hF
  ·refine qhc ?_
   cases hF
  refine qg1 ?_
  obtain rfl:=qa hF
  exact rG ⟨hK2,rfl,h⟩ rfl
 rintro e2 w2 ⟨hF,rfl,h⟩
 subst hKF1
 refine X0 3 rfl ?_
 obtain ⟨y1,hy1,hF,he1,b1,_,q1,cs2,hp1,hq1,rfl,hc1⟩:=s1.ix hF
 refine zxe hp1 hq1 he1 rfl (zc 0 (hc1.below h.below) rfl (X0 7 rfl ?_))
 obtain ⟨o1,hF,hK1⟩:=qf hF
 refine qm (rL (fun m e w'=>∃ (i1:Int) (i2:Int),qbp x m i1 i2=some o1∧e=[(0,.slice p1 x.length k1),(3,.int .i64 i1),(4,.int .i64 i2)]∧SH w w' []) n ⟨_,_,hF,rfl,h⟩ rfl ?_)
 rintro m1 e1 w1 ⟨i1,i2,hF,rfl,h⟩
 rcases m1 with _|m1
 ·cases hF
 refine X0 8 rfl (qh rfl hF ?_ ?_)<;>intro hF
 ·refine X0 7 rfl ?_
  obtain ⟨y2,hy2,hF,he2,b2,_,q2,cs3,hp2,hq2,rfl,hc3⟩:=s1.ix hF
  exact zxe hp2 hq2 he2 rfl (zc 0 (hc3.below h.below) rfl (X0 9 rfl (rK ⟨_,_,hF,rfl,h⟩ rfl)))
 refine qq rfl ?_
 obtain rfl:=qa hF;replace hF:=hK1
 exact X0 5 rfl (ri h hF rfl)
def qd8 (n:Nat) (t:ql) (v0:Bool):Option Bool :=
 (qgk n t).bind fun r1 =>
 bif (!r1) then some true else
 bif v0 then
  (qeh n t.Ap).bind fun r2 =>
  some (decide (r2<0))
 else
  some false
theorem qii {t:ql} {v0:Bool} (ha1:GoT.R w (old w) t cs1) {p4:Option Addr} (ha2:GoT.R w (old w) (some v0) [.pointer p4]) {r:Bool} (hF:qd8 n t v0=some r):RetV Tryz.prog 347 [GoT.v ql cs1,.pointer p4] w r:=by
 obtain ⟨p1,k1,p2,k2,p3,k3,rfl,s1,s2,s3⟩:=qau ha1
 obtain ⟨b1,o_1,cs2,rfl,-,hr1,hc1⟩:=PtR.get ha2 rfl
 obtain rfl:=hr1
 refine zV 16 Tryz.func347 rfl fun h=>zSR (qy h rfl rfl fun w1 bb1 h=>X1 5 0 h rfl (zcB h hF (qjP (h.old ha1)) rfl fun r1 w2 h hF=>zp2 rfl (qg (t:=7) hF rfl ?_ ?_)))<;>intro hF
 ·exact X0 10 rfl (rb h hF rfl)
 refine X0 1 rfl (zc 0 (hc1.below h.below) rfl (X0 2 rfl (qg (t:=9) hF rfl ?_ ?_)))<;>intro hF
 ·exact X1 5 0 h rfl (zcI h hF (qim ⟨_,_,rfl,(h.oldS s3)⟩) rfl fun r2 w3 h hF=>X0 7 rfl (rb h hF rfl))
 exact X0 9 rfl (rb h hF rfl)
def qw (s:(List ql)) (f_0:Bool):Nat→Int→Option (Flow Int Int)
 | 0,_=>none
 | n+1,i1 =>
  bif decide (i1<(s.length:Int)) then
   (idx s i1).bind fun y1 =>
   (qd8 n y1 f_0).bind fun r1 =>
   bif r1 then some (.ret i1) else
   qw s f_0 n (W64 (i1+1))
  else
   some (.nxt i1)
def qQ (n:Nat) (s:(List ql)) (f_0:Bool):Option Int :=
 (qw s f_0 n 0).bind fun o=>match o with
 | .ret r=>some r
 | .nxt _ =>
  some (-1)
theorem qcR {s:(List ql)} {f_0:Bool} (ha1:GoT.R w (old w) s cs1) {p2:Option Addr} (ha2:GoT.R w (old w) (some f_0) [.pointer p2]) {r:Int} (hF:qQ n s f_0=some r):RetV Tryz.prog 353 [GoT.v (List ql) cs1,.func (.func 347) #[] #[.pointer p2]] w r:=by
 obtain ⟨p1,k1,rfl,s1⟩:=ha1
 obtain ⟨b1,o_1,cs2,rfl,-,hr1,hc1⟩:=PtR.get ha2 rfl
 obtain rfl:=hr1
 refine zV 19 Tryz.func353 rfl fun h=>X0 11 rfl ?_
 obtain ⟨o1,hF,hK1⟩:=qf hF
 refine qm (rL (fun m e w'=>∃ (i1:Int),qw s f_0 m i1=some o1∧e=[(0,.slice p1 s.length k1),(1,.func (.func 347) #[] #[.pointer (some ⟨b1,o_1,none⟩)]),(7,.int .i64 (s.length:Int)),(8,.int .i64 i1)]∧SH w w' []) n ⟨_,hF,rfl,h⟩ rfl ?_)
 rintro m1 e1 w1 ⟨i1,hF,rfl,h⟩
 rcases m1 with _|m1
 ·cases hF
 refine X0 5 rfl (qh rfl hF ?_ ?_)<;>intro hF
 ·refine X0 13 rfl ?_
  obtain ⟨y1,hy1,hF,he1,b2,_,q1,cs3,hp1,hq1,hr2,hc3⟩:=s1.ix hF
  obtain ⟨p3,k2,p4,k3,p5,k4,rfl,s2,s3,s4⟩:=qau hr2
  refine zxe hp1 hq1 he1 rfl (zc 0 (hc3.below h.below) rfl (zcB h hF (qii (qfd y1 (h.oldS s2) (h.oldS s3) (h.oldS s4)) (h.old ha2)) rfl fun r1 w2 h hF=>qd1 (qh rfl hF ?_ ?_)))<;>intro hF
  ·refine X0 5 rfl ?_
   obtain rfl:=qa hF;replace hF:=hK1
   exact ri h hF rfl
  exact X0 6 rfl (rK ⟨_,hF,rfl,h⟩ rfl)
 refine qq rfl ?_
 obtain rfl:=qa hF;replace hF:=hK1
 exact X0 4 rfl (ri h hF rfl)
def qah (n:Nat) (s:(List ql)) (f_0:Bool):Option Bool :=
 (qQ n s f_0).bind fun r1 =>
 some (decide (r1 ≥ 0))
theorem qcx {s:(List ql)} {f_0:Bool} (ha1:GoT.R w (old w) s cs1) {p2:Option Addr} (ha2:GoT.R w (old w) (some f_0) [.pointer p2]) {r:Bool} (hF:qah n s f_0=some r):RetV Tryz.prog 346 [GoT.v (List ql) cs1,.func (.func 347) #[] #[.pointer p2]] w r:=by
 obtain ⟨p1,k1,rfl,s1⟩:=ha1
 obtain ⟨b1,o_1,cs2,rfl,-,hr1,hc1⟩:=PtR.get ha2 rfl
 obtain rfl:=hr1
 exact zV 9 Tryz.func346 rfl fun h=>X0 8 rfl (zcI h hF (qcR ⟨_,_,rfl,(h.oldS s1)⟩ (h.old ha2)) rfl fun r1 w1 h hF=>X0 3 rfl (rb h hF rfl))
def qdm (n:Nat) (list:(List ql)) (positive:Bool):Option Bool :=
 bif ((list.length:Int)==2) then
  (qah n list positive).bind fun r1 =>
  some (!r1)
 else
  some false
theorem qeS {list:(List ql)} {positive:Bool} (ha1:GoT.R w (old w) list cs1) {r:Bool} (hF:qdm n list positive=some r):RetV Tryz.prog 335 [GoT.v (List ql) cs1,.bool positive] w r:=by
 obtain ⟨p1,k1,rfl,s1⟩:=ha1
 refine zV 14 Tryz.func335 rfl fun h=>zSR (qy h rfl rfl fun w1 bb1 h=>X0 8 rfl (qg (t:=8) hF rfl ?_ ?_))<;>intro hF
 ·exact X0 5 rfl (zcB h hF (qcx ⟨_,_,rfl,(h.oldS s1)⟩ (qg9 (x:=positive) 0 h rfl rfl)) rfl fun r1 w2 h hF=>X0 5 rfl (rb h hF rfl))
 exact X0 7 rfl (rb h hF rfl)
def qeZ (_:Nat) (p:qF):Option Bool :=
 some p.Ba
theorem qhJ {p:qF} (ha1:GoT.R w (old w) p cs1) {r:Bool} (hF:qeZ n p=some r):RetV Tryz.prog 351 [GoT.v qF cs1] w r:=by
 obtain rfl:=qai ha1
 exact zV 5 Tryz.func351 rfl fun h=>zSR (qy h rfl rfl fun w1 bb1 h=>X1 8 0 h rfl (rb h hF rfl))
def qx (s:(List qF)):Nat→Int→Option (Flow Int Int)
 | 0,_=>none
 | n+1,i1 =>
  bif decide (i1<(s.length:Int)) then
   (idx s i1).bind fun y1 =>
   (qeZ n y1).bind fun r1 =>
   bif r1 then some (.ret i1) else
   qx s n (W64 (i1+1))
  else
   some (.nxt i1)
def qat (n:Nat) (s:(List qF)):Option Int :=
 (qx s n 0).bind fun o=>match o with
 | .ret r=>some r
 | .nxt _ =>
  some (-1)
theorem qc1 {s:(List qF)} (ha1:GoT.R w (old w) s cs1) {r:Int} (hF:qat n s=some r):RetV Tryz.prog 350 [GoT.v (List qF) cs1,.func (.func 351) #[] #[]] w r:=by
 obtain ⟨p1,k1,rfl,s1⟩:=ha1
 refine zV 19 Tryz.func350 rfl fun h=>X0 11 rfl ?_
 obtain ⟨o1,hF,hK1⟩:=qf hF
 refine qm (rL (fun m e w'=>∃ (i1:Int),qx s m i1=some o1∧e=[(0,.slice p1 s.length k1),(1,.func (.func 351) #[] #[]),(7,.int .i64 (s.length:Int)),(8,.int .i64 i1)]∧SH w w' []) n ⟨_,hF,rfl,h⟩ rfl ?_)
 rintro m1 e1 w1 ⟨i1,hF,rfl,h⟩
 rcases m1 with _|m1
 ·cases hF
 refine X0 5 rfl (qh rfl hF ?_ ?_)<;>intro hF
 ·refine X0 13 rfl ?_
  obtain ⟨y1,hy1,hF,he1,b1,_,q1,cs2,hp1,hq1,hr1,hc2⟩:=s1.ix hF
  obtain rfl:=qai hr1
  refine zxe hp1 hq1 he1 rfl (zc 0 (hc2.below h.below) rfl (zcB h hF (qhJ (qb1 y1)) rfl fun r1 w2 h hF=>qd1 (qh rfl hF ?_ ?_)))<;>intro hF
  ·refine X0 5 rfl ?_
   obtain rfl:=qa hF;replace hF:=hK1
   exact ri h hF rfl
  exact X0 6 rfl (rK ⟨_,hF,rfl,h⟩ rfl)
 refine qq rfl ?_
 obtain rfl:=qa hF;replace hF:=hK1
 exact X0 4 rfl (ri h hF rfl)
def qeG (n:Nat) (c:qk):Option Int :=
 (qat n c.Ai).bind fun r1 =>
 some r1
theorem qiM {c:qk} (ha1:GoT.R w (old w) c cs1) {r:Int} (hF:qeG n c=some r):RetV Tryz.prog 336 [GoT.v qk cs1] w r:=by
 obtain ⟨p1,k1,p2,k2,p3,k3,rfl,s1,s2,s3⟩:=qI ha1
 exact zV 6 Tryz.func336 rfl fun h=>zSR (qy h rfl rfl fun w1 bb1 h=>X1 6 0 h rfl (zcI h hF (qc1 ⟨_,_,rfl,(h.oldS s1)⟩) rfl fun r1 w2 h hF=>X0 2 rfl (ri h hF rfl)))
def qdS (n:Nat) (c:qk) (pin:Int):Option Bool :=
 (qcv n c).bind fun r1 =>
 (qal n pin 0 (W64 (r1-1))).bind fun r2 =>
 some r2
theorem qfT {c:qk} {pin:Int} (ha1:GoT.R w (old w) c cs1) {r:Bool} (hF:qdS n c pin=some r):RetV Tryz.prog 337 [GoT.v qk cs1,.int .i64 pin] w r:=by
 obtain ⟨p1,k1,p2,k2,p3,k3,rfl,s1,s2,s3⟩:=qI ha1
 exact zV 10 Tryz.func337 rfl fun h=>zSR (qy h rfl rfl fun w1 bb1 h=>X1 6 0 h rfl (zcI h hF (qeo (h.old ha1)) rfl fun r1 w2 h hF=>zp1 rfl (zcB h hF qW rfl fun r2 w3 h hF=>X0 2 rfl (rb h hF rfl))))
def qeC (n:Nat) (a_0:qk) (a_1:qz):Option Bool :=
 (qge n a_1.Ar).bind fun r1 =>
 bif r1 then
  (
   bif (a_1.Bc==0) then
    bif ((a_1.Bb.length:Int)==0) then
     (qdm n a_1.At false).bind fun r2 =>
     bif r2 then
      (qeG n a_0).bind fun r3 =>
      bif (a_1.Az==r3) then
       bif decide (a_1.Az ≥ 0) then
        (qdS n a_0 a_1.To).bind fun r4 =>
        bif r4 then some (a_1.To != a_1.Az) else
        some false
       else
        some false
      else
       some false
     else
      some false
    else
     some false
   else
    some false).bind fun b1 =>
  some b1
 else
  (
   (qdm n a_1.At true).bind fun r6 =>
   bif (!r6) then some true else
   (qdm n a_1.Bb true).bind fun r7 =>
   bif (!r7) then some true else
   (qcv n a_0).bind fun r8 =>
   bif (a_1.To != r8) then some true else
   (qdS n a_0 a_1.Az).bind fun r9 =>
   some (!r9)).bind fun b2 =>
  bif b2 then some false else
  bif (a_1.Ar==1) then
   (idx a_0.Ai a_1.Az).bind fun y1 =>
   bif (!y1.Ba) then
    (qal n a_1.Bc 1 3).bind fun r5 =>
    some r5
   else
    some false
  else
   (
    bif (a_1.Ar==2) then some (a_1.Ar==2) else
    some (a_1.Ar==3)).bind fun b4 =>
   bif b4 then
    (idx a_0.Ai a_1.Az).bind fun y2 =>
    bif y2.Ba then some (a_1.Bc==0) else
    some false
   else
    some false
theorem qiE {a_0:qk} {a_1:qz} (ha1:GoT.R w (old w) a_0 cs1) (ha2:GoT.R w (old w) a_1 cs2) {r:Bool} (hF:qeC n a_0 a_1=some r):RetV Tryz.prog 319 [GoT.v qk cs1,GoT.v qz cs2] w r:=by
 obtain ⟨p1,k1,p2,k2,p3,k3,rfl,s1,s2,s3⟩:=qI ha1
 obtain ⟨p4,k4,p5,k5,rfl,s4,s5⟩:=qaa ha2
 refine zV 103 Tryz.func319 rfl fun h=>zSR (qy h rfl rfl fun w1 bb1 h=>qy h rfl rfl fun w2 bb2 h=>X1 7 0 h rfl (zcB h hF qj4 rfl fun r1 w3 h hF=>qd1 (qh rfl hF ?_ ?_)))<;>intro hF
 ·refine qeq ?_
  obtain ⟨KF1,hKF1,o1,hF,hK1⟩:=bindE hF
  refine qcw (fun e w'=>∃ (b1:Bool),KF1 b1=some r∧e=[(4,.bool b1)]∧SH w w' []) ?_ ?_
  ·refine rD (Y1 2 0 h rfl ?_)
   refine zd2 rfl (qaH (t:=11) hF rfl ?_ ?_)<;>intro hF
   ·refine Y1 4 0 h rfl ?_
    refine Y0 6 rfl (qaH (t:=17) hF rfl ?_ ?_)<;>intro hF
    ·refine Y1 4 0 h rfl ?_
     refine Y0 1 rfl ?_
     obtain ⟨r2,hr2,hF⟩:=qf hF
     refine qbz r2 (vsB _) (cB 335 rfl) (fun _ hb=>qeS ⟨_,_,rfl,((h.ext hb).oldS s4)⟩ hr2) rfl rfl rfl rfl (zd2 rfl (qaH (t:=22) hF rfl ?_ ?_))<;>intro hF
     ·refine Y1 4 0 h rfl ?_
      refine Y1 2 1 h rfl ?_
      refine Y0 1 rfl ?_
      obtain ⟨r3,hr3,hF⟩:=qf hF
      refine qbz r3 (vsI _) (cB 336 rfl) (fun _ hb=>qiM ((h.ext hb).old ha1) hr3) rfl rfl rfl rfl (Y0 4 rfl (qaH (t:=29) hF rfl ?_ ?_))<;>intro hF
      ·refine Y1 4 0 h rfl ?_
       refine Y0 4 rfl (qaH (t:=34) hF rfl ?_ ?_)<;>intro hF
       ·refine Y1 2 1 h rfl ?_
        refine Y1 4 0 h rfl ?_
        refine Y0 1 rfl ?_
        obtain ⟨r4,hr4,hF⟩:=qf hF
        refine qbz r4 (vsB _) (cB 337 rfl) (fun _ hb=>qfT ((h.ext hb).old ha1) hr4) rfl rfl rfl rfl (zd2 rfl (qaH (t:=40) hF rfl ?_ ?_))<;>intro hF
        ·refine Y1 4 0 h rfl ?_
         refine Y1 4 0 h rfl ?_
         refine Y0 4 rfl (dN h fun w4 h=>?_)
         replace h:=h.pick [] rfl
         obtain rfl:=qa hF
         exact rG ⟨_,hK1,rfl,h⟩ rfl
        refine Y0 7 rfl (dN h fun w5 h=>?_)
        replace h:=h.pick [] rfl
        obtain rfl:=qa hF
        exact rG ⟨_,hK1,rfl,h⟩ rfl
       refine Y0 13 rfl (dN h fun w6 h=>?_)
       replace h:=h.pick [] rfl
       obtain rfl:=qa hF
       exact rG ⟨_,hK1,rfl,h⟩ rfl
      refine Y0 18 rfl (dN h fun w7 h=>?_)
      replace h:=h.pick [] rfl
      obtain rfl:=qa hF
      exact rG ⟨_,hK1,rfl,h⟩ rfl
     refine Y0 25 rfl (dN h fun w8 h=>?_)
     replace h:=h.pick [] rfl
     obtain rfl:=qa hF
     exact rG ⟨_,hK1,rfl,h⟩ rfl
    refine Y0 30 rfl (dN h fun w9 h=>?_)
    replace h:=h.pick [] rfl
    obtain rfl:=qa hF
    exact rG ⟨_,hK1,rfl,h⟩ rfl
   refine Y0 36 rfl (dN h fun w10 h=>?_)
   replace h:=h.pick [] rfl
   obtain rfl:=qa hF
   exact rG ⟨_,hK1,rfl,h⟩ rfl
  rintro e1 w11 ⟨b1,hF,rfl,h⟩
  subst hKF1
  exact rb h hF rfl
 refine zKSS ?_
 obtain ⟨KF3,hKF3,o3,hF,hK3⟩:=bindE hF
 refine qcw (fun e w'=>∃ (b2:Bool),KF3 b2=some r∧e=[(2,.pointer (some ⟨bb1,0,none⟩)),(3,.pointer (some ⟨bb2,0,none⟩)),(70,.bool b2)]∧SH w w' [Ch.box bb2 (qhN a_1 p4 p5 k4 k5) 266,Ch.box bb1 (qb6 a_0 p1 p2 p3 k1 k2 k3) 263]) ?_ ?_
 ·refine rD (Y1 2 0 h rfl ?_)
  obtain ⟨r6,hr8,hF⟩:=qf hF
  refine qbz r6 (vsB _) (cB 335 rfl) (fun _ hb=>qeS ⟨_,_,rfl,((h.ext hb).oldS s4)⟩ hr8) rfl rfl rfl rfl (zd2 rfl (qaH (t:=51) hF rfl ?_ ?_))<;>intro hF
  ·refine Y0 19 rfl (dN h fun w14 h=>?_)
   obtain rfl:=qa hF
   exact rG ⟨_,hK3,rfl,h⟩ rfl
  refine Y1 4 0 h rfl ?_
  refine Y0 1 rfl ?_
  obtain ⟨r7,hr9,hF⟩:=qf hF
  refine qbz r7 (vsB _) (cB 335 rfl) (fun _ hb=>qeS ⟨_,_,rfl,((h.ext hb).oldS s5)⟩ hr9) rfl rfl rfl rfl (Y0 4 rfl (qaH (t:=57) hF rfl ?_ ?_))<;>intro hF
  ·refine Y0 13 rfl (dN h fun w15 h=>?_)
   obtain rfl:=qa hF
   exact rG ⟨_,hK3,rfl,h⟩ rfl
  refine Y1 4 0 h rfl ?_
  refine Y1 2 1 h rfl ?_
  refine Y0 1 rfl ?_
  obtain ⟨r8,hr10,hF⟩:=qf hF
  refine qbz r8 (vsI _) (cB 200 rfl) (fun _ hb=>qeo ((h.ext hb).old ha1) hr10) rfl rfl rfl rfl (Y0 4 rfl (qaH (t:=64) hF rfl ?_ ?_))<;>intro hF
  ·refine Y0 6 rfl (dN h fun w16 h=>?_)
   obtain rfl:=qa hF
   exact rG ⟨_,hK3,rfl,h⟩ rfl
  refine Y1 2 1 h rfl ?_
  refine Y1 4 0 h rfl ?_
  refine Y0 1 rfl ?_
  obtain ⟨r9,hr11,hF⟩:=qf hF
  refine qbz r9 (vsB _) (cB 337 rfl) (fun _ hb=>qfT ((h.ext hb).old ha1) hr11) rfl rfl rfl rfl (Y0 3 rfl (dN h fun w17 h=>?_))
  obtain rfl:=qa hF
  exact rG ⟨_,hK3,rfl,h⟩ rfl
 rintro e3 w18 ⟨b2,hF,rfl,h⟩
 subst hKF3
 refine qh rfl hF ?_ ?_<;>intro hF
 ·exact X0 4 rfl (rb h hF rfl)
 refine X1 13 0 h rfl (qh rfl hF ?_ ?_)<;>intro hF
 ·refine X2 6 1 0 h rfl ?_
  obtain ⟨y1,hy1,hF,he1,b3,_,q1,cs3,hp1,hq1,hr5,hc4⟩:=s1.ix hF
  obtain rfl:=qai hr5
  refine zxe hp1 hq1 he1 rfl (zp1 rfl (zc 3 (hc4.below h.below) rfl (zp2 rfl (qg (t:=83) hF rfl ?_ ?_))))<;>intro hF
  ·exact X1 5 0 h rfl (zcB h hF qW rfl fun r5 w12 h hF=>X0 3 rfl (rb h hF rfl))
  exact X0 6 rfl (rb h hF rfl)
 refine X0 6 rfl ?_
 obtain ⟨KF2,hKF2,o2,hF,hK2⟩:=bindE hF
 refine qcw (fun e w'=>∃ (b4:Bool),KF2 b4=some r∧e=[(2,.pointer (some ⟨bb1,0,none⟩)),(3,.pointer (some ⟨bb2,0,none⟩)),(88,.bool b4)]∧SH w w' [Ch.box bb2 (qhN a_1 p4 p5 k4 k5) 266,Ch.box bb1 (qb6 a_0 p1 p2 p3 k1 k2 k3) 263]) ?_ ?_
 ·refine qh rfl hF ?_ ?_<;>intro hF
  ·refine qg1 ?_
   obtain rfl:=qa hF
   exact rG ⟨_,hK2,rfl,h⟩ rfl
  refine X0 4 rfl ?_
  obtain rfl:=qa hF
  exact rG ⟨_,hK2,rfl,h⟩ rfl
 rintro e2 w13 ⟨b4,hF,rfl,h⟩
 subst hKF2
 refine qh rfl hF ?_ ?_<;>intro hF
 ·refine X2 6 1 0 h rfl ?_
  obtain ⟨y2,hy2,hF,he2,b5,_,q2,cs4,hp2,hq2,hr7,hc6⟩:=s1.ix hF
  obtain rfl:=qai hr7
  refine zxe hp2 hq2 he2 rfl (zp1 rfl (zc 3 (hc6.below h.below) rfl (zp1 rfl (qg (t:=98) hF rfl ?_ ?_))))<;>intro hF
  ·exact X1 9 0 h rfl (rb h hF rfl)
  exact X0 6 rfl (rb h hF rfl)
 exact X0 6 rfl (rb h hF rfl)
end Go.Fw


namespace Go.Fw
open Go Go.Proofs
open Go.RowKit (Below)
set_option maxRecDepth 100000
set_option maxHeartbeats 1600000
variable {n:Nat} {w:World} {cs1 cs2 cs3 cs4 cs5 cs6 cs7 cs8 cs9:List Value}
def qc3 (_:Nat) (a_o:qz) (v0:qz):Option Bool :=
 bif (a_o.Ar==v0.Ar) then
  bif (a_o.Az==v0.Az) then some (a_o.To==v0.To) else
  some false
 else
  some false
theorem qhx {a_o:qz} {v0:qz} (ha1:GoT.R w (old w) a_o cs1) {p3:Option Addr} (ha2:GoT.R w (old w) (some v0) [.pointer p3]) {r:Bool} (hF:qc3 n a_o v0=some r):RetV Tryz.prog 321 [GoT.v qz cs1,.pointer p3] w r:=by
 obtain ⟨p1,k1,p2,k2,rfl,s1,s2⟩:=qaa ha1
 obtain ⟨b1,o_1,cs2,rfl,-,hr1,hc1⟩:=PtR.get ha2 rfl
 obtain ⟨p4,k3,p5,k4,rfl,s3,s4⟩:=qaa hr1
 refine zV 23 Tryz.func321 rfl fun h=>zSR (qy h rfl rfl fun w1 bb1 h=>X1 7 0 h rfl (zc 0 (hc1.below h.below) rfl (zp2 rfl (qg (t:=9) hF rfl ?_ ?_))))<;>intro hF
 ·refine X1 7 0 h rfl (zc 1 (hc1.below h.below) rfl (X0 4 rfl (qg (t:=16) hF rfl ?_ ?_)))<;>intro hF
  ·exact X1 7 0 h rfl (zc 2 (hc1.below h.below) rfl (X0 5 rfl (rb h hF rfl)))
  exact X0 8 rfl (rb h hF rfl)
 exact X0 15 rfl (rb h hF rfl)
def qv (s:(List qz)) (f_0:qz):Nat→Int→Option (Flow Int Int)
 | 0,_=>none
 | n+1,i1 =>
  bif decide (i1<(s.length:Int)) then
   (idx s i1).bind fun y1 =>
   (qc3 n y1 f_0).bind fun r1 =>
   bif r1 then some (.ret i1) else
   qv s f_0 n (W64 (i1+1))
  else
   some (.nxt i1)
def qaj (n:Nat) (s:(List qz)) (f_0:qz):Option Int :=
 (qv s f_0 n 0).bind fun o=>match o with
 | .ret r=>some r
 | .nxt _ =>
  some (-1)
theorem qcC {s:(List qz)} {f_0:qz} (ha1:GoT.R w (old w) s cs1) {p2:Option Addr} (ha2:GoT.R w (old w) (some f_0) [.pointer p2]) {r:Int} (hF:qaj n s f_0=some r):RetV Tryz.prog 192 [GoT.v (List qz) cs1,.func (.func 321) #[] #[.pointer p2]] w r:=by
 obtain ⟨p1,k1,rfl,s1⟩:=ha1
 obtain ⟨b1,o_1,cs2,rfl,-,hr1,hc1⟩:=PtR.get ha2 rfl
 obtain ⟨p3,k2,p4,k3,rfl,s2,s3⟩:=qaa hr1
 refine zV 19 Tryz.func192 rfl fun h=>X0 11 rfl ?_
 obtain ⟨o1,hF,hK1⟩:=qf hF
 refine qm (rL (fun m e w'=>∃ (i1:Int),qv s f_0 m i1=some o1∧e=[(0,.slice p1 s.length k1),(1,.func (.func 321) #[] #[.pointer (some ⟨b1,o_1,none⟩)]),(7,.int .i64 (s.length:Int)),(8,.int .i64 i1)]∧SH w w' []) n ⟨_,hF,rfl,h⟩ rfl ?_)
 rintro m1 e1 w1 ⟨i1,hF,rfl,h⟩
 rcases m1 with _|m1
 ·cases hF
 refine X0 5 rfl (qh rfl hF ?_ ?_)<;>intro hF
 ·refine X0 13 rfl ?_
  obtain ⟨y1,hy1,hF,he1,b2,_,q1,cs3,hp1,hq1,hr2,hc3⟩:=s1.ix hF
  obtain ⟨p5,k4,p6,k5,rfl,s4,s5⟩:=qaa hr2
  refine zxe hp1 hq1 he1 rfl (zc 0 (hc3.below h.below) rfl (zcB h hF (qhx (qeW y1 (h.oldS s4) (h.oldS s5)) (h.old ha2)) rfl fun r1 w2 h hF=>qd1 (qh rfl hF ?_ ?_)))<;>intro hF
  ·refine X0 5 rfl ?_
   obtain rfl:=qa hF;replace hF:=hK1
   exact ri h hF rfl
  exact X0 6 rfl (rK ⟨_,hF,rfl,h⟩ rfl)
 refine qq rfl ?_
 obtain rfl:=qa hF;replace hF:=hK1
 exact X0 4 rfl (ri h hF rfl)
def qL (n:Nat) (s:(List qz)) (f_0:qz):Option Bool :=
 (qaj n s f_0).bind fun r1 =>
 some (decide (r1 ≥ 0))
theorem qch {s:(List qz)} {f_0:qz} (ha1:GoT.R w (old w) s cs1) {p2:Option Addr} (ha2:GoT.R w (old w) (some f_0) [.pointer p2]) {r:Bool} (hF:qL n s f_0=some r):RetV Tryz.prog 320 [GoT.v (List qz) cs1,.func (.func 321) #[] #[.pointer p2]] w r:=by
 obtain ⟨p1,k1,rfl,s1⟩:=ha1
 obtain ⟨b1,o_1,cs2,rfl,-,hr1,hc1⟩:=PtR.get ha2 rfl
 obtain ⟨p3,k2,p4,k3,rfl,s2,s3⟩:=qaa hr1
 exact zV 9 Tryz.func320 rfl fun h=>X0 8 rfl (zcI h hF (qcC ⟨_,_,rfl,(h.oldS s1)⟩ (h.old ha2)) rfl fun r1 w1 h hF=>X0 3 rfl (rb h hF rfl))
def qa7 (c:qk):Nat→Int→Option (Flow Bool Int)
 | 0,_=>none
 | n+1,i1 =>
  bif decide (i1<(c.Ak.length:Int)) then
   (idx c.Ak i1).bind fun y1 =>
   (qeC n c y1).bind fun r1 =>
   bif (!r1) then some (.ret false) else
   (subS c.Ak 0 i1).bind fun x1 =>
   (qL n x1 y1).bind fun r2 =>
   bif r2 then some (.ret false) else
   qa7 c n (W64 (i1+1))
  else
   some (.nxt i1)
def qdV (n:Nat) (c:qk):Option Bool :=
 (qa7 c n 0).bind fun o=>match o with
 | .ret r=>some r
 | .nxt _ =>
  some (decide ((c.Ak.length:Int)≤8))
theorem qhF {c:qk} (ha1:GoT.R w (old w) c cs1) {r:Bool} (hF:qdV n c=some r):RetV Tryz.prog 301 [GoT.v qk cs1] w r:=by
 obtain ⟨p1,k1,p2,k2,p3,k3,rfl,s1,s2,s3⟩:=qI ha1
 refine zV 30 Tryz.func301 rfl fun h=>zSR (qy h rfl rfl fun w1 bb1 h=>X1 10 0 h rfl ?_)
 obtain ⟨o1,hF,hK1⟩:=qf hF
 refine qm (rL (fun m e w'=>∃ (i1:Int),qa7 c m i1=some o1∧e=[(1,.pointer (some ⟨bb1,0,none⟩)),(6,.slice p2 c.Ak.length k2),(7,.int .i64 (c.Ak.length:Int)),(8,.int .i64 i1)]∧SH w w' [Ch.box bb1 (qb6 c p1 p2 p3 k1 k2 k3) 263]) n ⟨_,hF,rfl,h⟩ rfl ?_)
 rintro m1 e1 w2 ⟨i1,hF,rfl,h⟩
 rcases m1 with _|m1
 ·cases hF
 refine X0 5 rfl (qh rfl hF ?_ ?_)<;>intro hF
 ·refine X0 6 rfl ?_
  obtain ⟨y1,hy1,hF,he1,b1,_,q1,cs2,hp1,hq1,hr1,hc2⟩:=s2.ix hF
  obtain ⟨p4,k4,p5,k5,rfl,s4,s5⟩:=qaa hr1
  refine zxe hp1 hq1 he1 rfl (zc 0 (hc2.below h.below) rfl (qM qe h rfl rfl rfl fun w3 bb2 h=>zp1 rfl (zs 0 h rfl fun w4 h=>X2 5 1 0 h rfl (zcB h hF (qiE (h.old ha1) (qeW y1 (h.oldS s4) (h.oldS s5))) rfl fun r1 w5 h hF=>zp2 rfl (qg (t:=17) hF rfl ?_ ?_)))))<;>intro hF
  ·refine X0 8 rfl (qdv rfl rfl (X0 4 rfl ?_))
   obtain rfl:=qa hF;replace hF:=hK1
   exact rb h hF rfl
  refine X1 7 1 h rfl ?_
  obtain ⟨x1,hx1,hF⟩:=qf hF
  obtain ⟨p6,k6,hp2,hk1,hl1,g1⟩:=qoR (h.oldS s2) hx1
  refine r_v (qms qe rfl rfl rfl (qo6 g1 rfl) hp2 hk1 hl1 rfl rfl rfl rfl) rfl ?_
  have s6:=qov s2 hx1 hp2 hk1
  refine X0 3 rfl (zcB h hF (qch ⟨_,_,rfl,(h.oldS s6)⟩ (qg9 (x:=y1) 0 h rfl (qeW y1 (h.oldS s4) (h.oldS s5)))) rfl fun r2 w6 h hF=>X0 2 rfl (qh rfl hF ?_ ?_))<;>intro hF
  ·refine X0 4 rfl ?_
   obtain rfl:=qa hF;replace hF:=hK1
   exact rb h hF rfl
  refine X0 6 rfl ?_
  replace h:=h.pick [1] rfl
  exact rK ⟨_,hF,rfl,h⟩ rfl
 refine qq rfl ?_
 obtain rfl:=qa hF;replace hF:=hK1
 exact X1 8 0 h rfl (rb h hF rfl)
def qfV (_:Nat) (a:qz) (v0:Int):Option Bool :=
 some (a.Ar==v0)
theorem qiu {a:qz} {v0:Int} (ha1:GoT.R w (old w) a cs1) {p3:Option Addr} (ha2:GoT.R w (old w) (some v0) [.pointer p3]) {r:Bool} (hF:qfV n a v0=some r):RetV Tryz.prog 338 [GoT.v qz cs1,.pointer p3] w r:=by
 obtain ⟨p1,k1,p2,k2,rfl,s1,s2⟩:=qaa ha1
 obtain ⟨b1,o_1,cs2,rfl,-,hr1,hc1⟩:=PtR.get ha2 rfl
 obtain rfl:=hr1
 exact zV 8 Tryz.func338 rfl fun h=>zSR (qy h rfl rfl fun w1 bb1 h=>X1 6 0 h rfl (zc 0 (hc1.below h.below) rfl (X0 3 rfl (rb h hF rfl))))
def qB (s:(List qz)) (f_0:Int):Nat→Int→Option (Flow Int Int)
 | 0,_=>none
 | n+1,i1 =>
  bif decide (i1<(s.length:Int)) then
   (idx s i1).bind fun y1 =>
   (qfV n y1 f_0).bind fun r1 =>
   bif r1 then some (.ret i1) else
   qB s f_0 n (W64 (i1+1))
  else
   some (.nxt i1)
def qaB (n:Nat) (s:(List qz)) (f_0:Int):Option Int :=
 (qB s f_0 n 0).bind fun o=>match o with
 | .ret r=>some r
 | .nxt _ =>
  some (-1)
theorem qdn {s:(List qz)} {f_0:Int} (ha1:GoT.R w (old w) s cs1) {p2:Option Addr} (ha2:GoT.R w (old w) (some f_0) [.pointer p2]) {r:Int} (hF:qaB n s f_0=some r):RetV Tryz.prog 192 [GoT.v (List qz) cs1,.func (.func 338) #[] #[.pointer p2]] w r:=by
 obtain ⟨p1,k1,rfl,s1⟩:=ha1
 obtain ⟨b1,o_1,cs2,rfl,-,hr1,hc1⟩:=PtR.get ha2 rfl
 obtain rfl:=hr1
 refine zV 19 Tryz.func192 rfl fun h=>X0 11 rfl ?_
 obtain ⟨o1,hF,hK1⟩:=qf hF
 refine qm (rL (fun m e w'=>∃ (i1:Int),qB s f_0 m i1=some o1∧e=[(0,.slice p1 s.length k1),(1,.func (.func 338) #[] #[.pointer (some ⟨b1,o_1,none⟩)]),(7,.int .i64 (s.length:Int)),(8,.int .i64 i1)]∧SH w w' []) n ⟨_,hF,rfl,h⟩ rfl ?_)
 rintro m1 e1 w1 ⟨i1,hF,rfl,h⟩
 rcases m1 with _|m1
 ·cases hF
 refine X0 5 rfl (qh rfl hF ?_ ?_)<;>intro hF
 ·refine X0 13 rfl ?_
  obtain ⟨y1,hy1,hF,he1,b2,_,q1,cs3,hp1,hq1,hr2,hc3⟩:=s1.ix hF
  obtain ⟨p3,k2,p4,k3,rfl,s2,s3⟩:=qaa hr2
  refine zxe hp1 hq1 he1 rfl (zc 0 (hc3.below h.below) rfl (zcB h hF (qiu (qeW y1 (h.oldS s2) (h.oldS s3)) (h.old ha2)) rfl fun r1 w2 h hF=>qd1 (qh rfl hF ?_ ?_)))<;>intro hF
  ·refine X0 5 rfl ?_
   obtain rfl:=qa hF;replace hF:=hK1
   exact ri h hF rfl
  exact X0 6 rfl (rK ⟨_,hF,rfl,h⟩ rfl)
 refine qq rfl ?_
 obtain rfl:=qa hF;replace hF:=hK1
 exact X0 4 rfl (ri h hF rfl)
def qas (n:Nat) (s:(List qz)) (f_0:Int):Option Bool :=
 (qaB n s f_0).bind fun r1 =>
 some (decide (r1 ≥ 0))
theorem qcN {s:(List qz)} {f_0:Int} (ha1:GoT.R w (old w) s cs1) {p2:Option Addr} (ha2:GoT.R w (old w) (some f_0) [.pointer p2]) {r:Bool} (hF:qas n s f_0=some r):RetV Tryz.prog 320 [GoT.v (List qz) cs1,.func (.func 338) #[] #[.pointer p2]] w r:=by
 obtain ⟨p1,k1,rfl,s1⟩:=ha1
 obtain ⟨b1,o_1,cs2,rfl,-,hr1,hc1⟩:=PtR.get ha2 rfl
 obtain rfl:=hr1
 exact zV 9 Tryz.func320 rfl fun h=>X0 8 rfl (zcI h hF (qdn ⟨_,_,rfl,(h.oldS s1)⟩ (h.old ha2)) rfl fun r1 w1 h hF=>X0 3 rfl (rb h hF rfl))
def qbI (n:Nat) (c:qk) (kind:Int):Option Bool :=
 (qas n c.Ak kind).bind fun r1 =>
 some r1
theorem qco {c:qk} {kind:Int} (ha1:GoT.R w (old w) c cs1) {r:Bool} (hF:qbI n c kind=some r):RetV Tryz.prog 322 [GoT.v qk cs1,.int .i64 kind] w r:=by
 obtain ⟨p1,k1,p2,k2,p3,k3,rfl,s1,s2,s3⟩:=qI ha1
 exact zV 9 Tryz.func322 rfl fun h=>zSR (qy h rfl rfl fun w1 bb1 h=>qy h rfl rfl fun w2 bb2 h=>X1 7 1 h rfl (zcB h hF (qcN ⟨_,_,rfl,(h.oldS s2)⟩ (qg9 (x:=kind) 0 h rfl rfl)) rfl fun r1 w3 h hF=>X0 2 rfl (rb h hF rfl)))
def qak (a_0:qk):Nat→Int→Int→Option (Int × Int)
 | 0,_,_=>none
 | n+1,i1,i2 =>
  bif decide (i2<(a_0.Ai.length:Int)) then
   (idx a_0.Ai i2).bind fun y1 =>
   bif y1.Ba then qak a_0 n (W64 (i1+1)) (W64 (i2+1)) else
   qak a_0 n i1 (W64 (i2+1))
  else
   some (i1,i2)
def qdw (n:Nat) (a_0:qk):Option Bool :=
 (qak a_0 n 0 0).bind fun o=>match o with
 | (i1,_) =>
  bif (a_0.Ar==1) then
   bif (i1==0) then
    (qcv n a_0).bind fun r1 =>
    (shlS 1 r1).bind fun y2 =>
    bif ((a_0.Au.length:Int)==y2) then
     (qaY n a_0.Au 0 1).bind fun r2 =>
     some r2
    else
     some false
   else
    some false
  else
   bif (a_0.Ar==2) then
    bif (i1==1) then
     bif ((a_0.Au.length:Int)==0) then
      (qbI n a_0 1).bind fun r3 =>
      bif (!r3) then
       (qbI n a_0 2).bind fun r4 =>
       (qbI n a_0 3).bind fun r5 =>
       some (!(r4==r5))
      else
       some false
     else
      some false
    else
     some false
   else
    bif (a_0.Ar==3) then
     bif (i1==1) then
      bif ((a_0.Au.length:Int)==0) then
       (qbI n a_0 1).bind fun r6 =>
       bif r6 then
        (qbI n a_0 2).bind fun r7 =>
        bif r7 then
         (qbI n a_0 3).bind fun r8 =>
         some (!r8)
        else
         some false
       else
        some false
      else
       some false
     else
      some false
    else
     some false
theorem qhE {a_0:qk} (ha1:GoT.R w (old w) a_0 cs1) {r:Bool} (hF:qdw n a_0=some r):RetV Tryz.prog 302 [GoT.v qk cs1] w r:=by
 obtain ⟨p1,k1,p2,k2,p3,k3,rfl,s1,s2,s3⟩:=qI ha1
 refine zV 83 Tryz.func302 rfl fun h=>zSR (qy h rfl rfl fun w1 bb1 h=>X1 14 0 h rfl ?_)
 obtain ⟨o1,hF,hK1⟩:=qf hF
 refine qm (rL (fun m e w'=>∃ (i1:Int) (i2:Int),qak a_0 m i1 i2=some o1∧e=[(1,.pointer (some ⟨bb1,0,none⟩)),(3,.int .i64 i1),(7,.slice p1 a_0.Ai.length k1),(8,.int .i64 (a_0.Ai.length:Int)),(9,.int .i64 i2)]∧SH w w' [Ch.box bb1 (qb6 a_0 p1 p2 p3 k1 k2 k3) 263]) n ⟨_,_,hF,rfl,h⟩ rfl ?_)
 rintro m1 e1 w2 ⟨i1,i2,hF,rfl,h⟩
 rcases m1 with _|m1
 ·cases hF
 refine X0 5 rfl (qh rfl hF ?_ ?_)<;>intro hF
 ·refine zKSBSR ?_
  obtain ⟨y1,hy1,hF,he1,b1,_,q1,cs2,hp1,hq1,hr1,hc2⟩:=s1.ix hF
  obtain rfl:=qai hr1
  refine zxe hp1 hq1 he1 rfl (zc 0 (hc2.below h.below) rfl (qM qe h rfl rfl rfl fun w3 bb2 h=>zs 0 h rfl fun w4 h=>X1 6 0 h rfl (qh rfl hF ?_ ?_)))<;>intro hF
  ·refine X0 10 rfl ?_
   replace h:=h.pick [1] rfl
   exact rK ⟨_,_,hF,rfl,h⟩ rfl
  refine X0 6 rfl ?_
  replace h:=h.pick [1] rfl
  exact rK ⟨_,_,hF,rfl,h⟩ rfl
 refine qq rfl ?_
 obtain rfl:=qa hF;replace hF:=hK1
 refine X1 12 0 h rfl (qh rfl hF ?_ ?_)<;>intro hF
 ·refine qeq (rD (zd3 rfl (qaH (t:=24) hF rfl ?_ ?_)))<;>intro hF
  ·refine Y1 4 0 h rfl ?_
   refine Y1 4 0 h rfl ?_
   refine Y0 1 rfl ?_
   obtain ⟨r1,hr2,hF⟩:=qf hF
   refine qbz r1 (vsI _) (cB 200 rfl) (fun _ hb=>qeo ((h.ext hb).old ha1) hr2) rfl rfl rfl rfl (Y0 1 rfl ?_)
   obtain ⟨y2,hx1,hF⟩:=qf hF
   obtain ⟨g1,hx1⟩:=qlu hx1
   refine d_v (fun _ hb=>qpT g1 rfl rfl) rfl ?_
   rw [hx1]
   refine Y0 4 rfl (qaH (t:=33) hF rfl ?_ ?_)<;>intro hF
   ·refine Y1 4 0 h rfl ?_
    refine Y0 1 rfl ?_
    obtain ⟨r2,hr3,hF⟩:=qf hF
    exact qbz r2 (vsB _) (cB 98 rfl) (fun _ hb=>qbm ⟨_,_,rfl,((h.ext hb).oldS s3)⟩ hr3) rfl rfl rfl rfl (zd2 rfl (dN h fun w5 h=>rb h hF rfl))
   exact Y0 5 rfl (dN h fun w6 h=>rb h hF rfl)
  exact Y0 14 rfl (dN h fun w7 h=>rb h hF rfl)
 refine X0 5 rfl (qh rfl hF ?_ ?_)<;>intro hF
 ·refine qeq (rD (zd3 rfl (qaH (t:=42) hF rfl ?_ ?_)))<;>intro hF
  ·refine Y1 4 0 h rfl ?_
   refine Y0 6 rfl (qaH (t:=48) hF rfl ?_ ?_)<;>intro hF
   ·refine Y1 2 0 h rfl ?_
    refine Y0 1 rfl ?_
    obtain ⟨r3,hr4,hF⟩:=qf hF
    refine qbz r3 (vsB _) (cB 322 rfl) (fun _ hb=>qco ((h.ext hb).old ha1) hr4) rfl rfl rfl rfl (Y0 4 rfl (qaH (t:=53) hF rfl ?_ ?_))<;>intro hF
    ·refine Y1 2 0 h rfl ?_
     refine Y0 1 rfl ?_
     obtain ⟨r4,hr5,hF⟩:=qf hF
     refine qbz r4 (vsB _) (cB 322 rfl) (fun _ hb=>qco ((h.ext hb).old ha1) hr5) rfl rfl rfl rfl (Y1 2 0 h rfl ?_)
     refine Y0 1 rfl ?_
     obtain ⟨r5,hr6,hF⟩:=qf hF
     exact qbz r5 (vsB _) (cB 322 rfl) (fun _ hb=>qco ((h.ext hb).old ha1) hr6) rfl rfl rfl rfl (Y0 4 rfl (dN h fun w8 h=>rb h hF rfl))
    exact Y0 7 rfl (dN h fun w9 h=>rb h hF rfl)
   exact Y0 12 rfl (dN h fun w10 h=>rb h hF rfl)
  exact Y0 18 rfl (dN h fun w11 h=>rb h hF rfl)
 refine X0 5 rfl (qh rfl hF ?_ ?_)<;>intro hF
 ·refine X0 5 rfl (qg (t:=64) hF rfl ?_ ?_)<;>intro hF
  ·refine X1 10 0 h rfl (qg (t:=70) hF rfl ?_ ?_)<;>intro hF
   ·refine X1 3 0 h rfl (zcB h hF (qco (h.old ha1)) rfl fun r6 w12 h hF=>zp2 rfl (qg (t:=74) hF rfl ?_ ?_))<;>intro hF
    ·refine X1 3 0 h rfl (zcB h hF (qco (h.old ha1)) rfl fun r7 w13 h hF=>zp2 rfl (qg (t:=78) hF rfl ?_ ?_))<;>intro hF
     ·exact X1 3 0 h rfl (zcB h hF (qco (h.old ha1)) rfl fun r8 w14 h hF=>X0 5 rfl (rb h hF rfl))
     exact X0 6 rfl (rb h hF rfl)
    exact X0 10 rfl (rb h hF rfl)
   exact X0 14 rfl (rb h hF rfl)
  exact X0 20 rfl (rb h hF rfl)
 exact X0 6 rfl (rb h hF rfl)
def qgX (n:Nat) (c:qk):Option Bool :=
 (qfF n c.Am).bind fun r1 =>
 bif r1 then
  (qgi n c.Ai).bind fun r2 =>
  bif r2 then
   (qdV n c).bind fun r3 =>
   bif r3 then
    (qal n c.Bl 0 100000).bind fun r4 =>
    bif r4 then
     (qal n c.Bf 0 100000).bind fun r5 =>
     bif r5 then
      (qdw n c).bind fun r6 =>
      some r6
     else
      some false
    else
     some false
   else
    some false
  else
   some false
 else
  some false
theorem qkO {c:qk} (ha1:GoT.R w (old w) c cs1) {r:Bool} (hF:qgX n c=some r):RetV Tryz.prog 261 [GoT.v qk cs1] w r:=by
 obtain ⟨p1,k1,p2,k2,p3,k3,rfl,s1,s2,s3⟩:=qI ha1
 refine zV 29 Tryz.func261 rfl fun h=>zSR (qy h rfl rfl fun w1 bb1 h=>X1 6 0 h rfl (zcB h hF qhX rfl fun r1 w2 h hF=>zp1 rfl (qg (t:=6) hF rfl ?_ ?_)))<;>intro hF
 ·refine X1 5 0 h rfl (zcB h hF (qjZ ⟨_,_,rfl,(h.oldS s1)⟩) rfl fun r2 w3 h hF=>zp2 rfl (qg (t:=11) hF rfl ?_ ?_))<;>intro hF
  ·refine X1 3 0 h rfl (zcB h hF (qhF (h.old ha1)) rfl fun r3 w4 h hF=>zp2 rfl (qg (t:=15) hF rfl ?_ ?_))<;>intro hF
   ·refine X1 5 0 h rfl (zcB h hF qW rfl fun r4 w5 h hF=>zp2 rfl (qg (t:=20) hF rfl ?_ ?_))<;>intro hF
    ·refine X1 5 0 h rfl (zcB h hF qW rfl fun r5 w6 h hF=>zp2 rfl (qg (t:=25) hF rfl ?_ ?_))<;>intro hF
     ·exact X1 3 0 h rfl (zcB h hF (qhE (h.old ha1)) rfl fun r6 w7 h hF=>X0 3 rfl (rb h hF rfl))
     exact X0 5 rfl (rb h hF rfl)
    exact X0 10 rfl (rb h hF rfl)
   exact X0 15 rfl (rb h hF rfl)
  exact X0 19 rfl (rb h hF rfl)
 exact X0 24 rfl (rb h hF rfl)
def qbe (l:qn):Nat→(List ByteArray)→Int→Option (Flow Bool ((List ByteArray) × Int))
 | 0,_,_=>none
 | n+1,x1,i1 =>
  bif decide (i1<(l.Aj.length:Int)) then
   (idx l.Aj i1).bind fun y1 =>
   (qgX n y1).bind fun r1 =>
   bif (!r1) then some (.ret false) else
   (appS x1 ([y1.Am]:List ByteArray)).bind fun x2 =>
   qbe l n x2 (W64 (i1+1))
  else
   some (.nxt (x1,i1))
def qeX (n:Nat) (l:qn):Option Bool :=
 (qbe l n ([]:List ByteArray) 0).bind fun o=>match o with
 | .ret r=>some r
 | .nxt (x1,_) =>
  bif decide ((l.Aj.length:Int)≤8) then
   (qcd n x1).bind fun r2 =>
   some r2
  else
   some false
theorem qi1 {l:qn} (ha1:GoT.R w (old w) l cs1) {r:Bool} (hF:qeX n l=some r):RetV Tryz.prog 214 [GoT.v qn cs1] w r:=by
 obtain ⟨p1,k1,rfl,s1⟩:=qa0 ha1
 refine zV 30 Tryz.func214 rfl fun h=>zSR (qy h rfl rfl fun w1 bb1 h=>X1 14 0 h rfl ?_)
 replace h:=h.nil (α:=ByteArray)
 obtain ⟨o1,hF,hK1⟩:=qf hF
 refine qm (rL (fun m e w'=>∃ (S1:Nat→Prop) (p2:Option Addr) (ln1:Nat) (k2:Nat) (x1:(List ByteArray)) (i1:Int),qbe l m x1 i1=some o1∧e=[(1,.pointer (some ⟨bb1,0,none⟩)),(3,.slice p2 ln1 k2),(7,.slice p1 l.Aj.length k1),(8,.int .i64 (l.Aj.length:Int)),(9,.int .i64 i1)]∧SH w w' [Ch.own S1 (x1:List ByteArray) [.slice p2 ln1 k2],Ch.box bb1 [.slice p1 l.Aj.length k1] 41]) n ⟨_,_,_,_,_,_,hF,rfl,h⟩ rfl ?_)
 rintro m1 e1 w2 ⟨S1,p2,ln1,k2,x1,i1,hF,rfl,h⟩
 obtain rfl:=(h.sl 0 rfl).2
 rcases m1 with _|m1
 ·cases hF
 refine X0 5 rfl (qh rfl hF ?_ ?_)<;>intro hF
 ·refine zKSBSR ?_
  obtain ⟨y1,hy1,hF,he1,b1,_,q1,cs2,hp1,hq1,hr1,hc2⟩:=s1.ix hF
  obtain ⟨p3,k3,p4,k4,p5,k5,rfl,s2,s3,s4⟩:=qI hr1
  refine zxe hp1 hq1 he1 rfl (zc 0 (hc2.below h.below) rfl (qM qe h rfl rfl rfl fun w3 bb2 h=>zs 0 h rfl fun w4 h=>X1 5 0 h rfl (zcB h hF (qkO (qgl y1 (h.oldS s2) (h.oldS s3) (h.oldS s4))) rfl fun r1 w5 h hF=>X0 2 rfl (qh rfl hF ?_ ?_))))<;>intro hF
  ·refine X0 4 rfl ?_
   obtain rfl:=qa hF;replace hF:=hK1
   exact rb h hF rfl
  refine X1 5 0 h rfl (qbi qe [.tmp 18] _ ([y1.Am]:List ByteArray) h rfl rfl rfl rfl rfl rfl rfl rfl rfl ⟨rfl,trivial⟩ rfl fun w6 p6 S2 h=>?_)
  obtain ⟨x2,hx1,hF⟩:=qf hF
  obtain ⟨g1,hx1⟩:=qdq hx1
  refine qgH qe 2 h rfl (h.sl 0 rfl).1 (h.sl 0 rfl).2 rfl rfl rfl rfl rfl rfl rfl rfl rfl g1 hx1 rfl fun w7 p7 k6 S3 h=>X0 7 rfl ?_
  replace h:=h.pick [2,3] rfl
  exact rK ⟨_,_,_,_,_,_,hF,rfl,h⟩ rfl
 refine qq rfl ?_
 obtain rfl:=qa hF;replace hF:=hK1
 refine X1 7 1 h rfl (qg (t:=26) hF rfl ?_ ?_)<;>intro hF
 ·exact X0 3 rfl (zcB h hF (qdf (h.own 0 rfl)) rfl fun r2 w8 h hF=>X0 3 rfl (rb h hF rfl))
 exact X0 5 rfl (rb h hF rfl)
def qar (d:qd):Nat→(List ByteArray)→Int→Option ((List ByteArray) × Int)
 | 0,_,_=>none
 | n+1,x3,i2 =>
  bif decide (i2<(d.Af.length:Int)) then
   (idx d.Af i2).bind fun y2 =>
   (appS x3 ([y2.Am]:List ByteArray)).bind fun x4 =>
   qar d n x4 (W64 (i2+1))
  else
   some (x3,i2)
def qao (d:qd):Nat→(List ByteArray)→Int→Option ((List ByteArray) × Int)
 | 0,_,_=>none
 | n+1,x1,i1 =>
  bif decide (i1<(d.Aa.length:Int)) then
   (idx d.Aa i1).bind fun y1 =>
   (appS x1 ([y1.Am]:List ByteArray)).bind fun x2 =>
   qao d n x2 (W64 (i1+1))
  else
   some (x1,i1)
def qcO (n:Nat) (d:qd):Option Bool :=
 (qao d n ([]:List ByteArray) 0).bind fun o=>match o with
 | (x1,_) =>
  (qar d n ([]:List ByteArray) 0).bind fun o=>match o with
  | (x3,_) =>
   bif decide ((x1.length:Int)≤14) then
    bif decide ((d.Ac.length:Int)≤30) then
     bif decide ((x3.length:Int)≤8) then
      (qcd n x1).bind fun r1 =>
      bif r1 then
       (qcd n d.Ac).bind fun r2 =>
       bif r2 then
        (qcd n x3).bind fun r3 =>
        some r3
       else
        some false
      else
       some false
     else
      some false
    else
     some false
   else
    some false
theorem qg6 {d:qd} (ha1:GoT.R w (old w) d cs1) {r:Bool} (hF:qcO n d=some r):RetV Tryz.prog 215 [GoT.v qd cs1] w r:=by
 obtain ⟨p1,k1,p2,k2,p3,k3,rfl,s1,s2,s3⟩:=qag ha1
 refine zV 62 Tryz.func215 rfl fun h=>zSR (qy h rfl rfl fun w1 bb1 h=>X1 15 0 h rfl ?_)
 replace h:=h.nil (α:=ByteArray)
 obtain ⟨o1,hF,hK1⟩:=qf hF
 refine qm (rL (fun m e w'=>∃ (S1:Nat→Prop) (p4:Option Addr) (ln1:Nat) (k4:Nat) (x1:(List ByteArray)) (i1:Int),qao d m x1 i1=some o1∧e=[(1,.pointer (some ⟨bb1,0,none⟩)),(3,.slice p4 ln1 k4),(4,.slice none 0 0),(10,.slice p1 d.Aa.length k1),(11,.int .i64 (d.Aa.length:Int)),(12,.int .i64 i1)]∧SH w w' [Ch.own S1 (x1:List ByteArray) [.slice p4 ln1 k4],Ch.box bb1 (qaq d p1 p2 p3 k1 k2 k3) 45]) n ⟨_,_,_,_,_,_,hF,rfl,h⟩ rfl ?_)
 rintro m1 e1 w2 ⟨S1,p4,ln1,k4,x1,i1,hF,rfl,h⟩
 obtain rfl:=(h.sl 0 rfl).2
 rcases m1 with _|m1
 ·cases hF
 refine X0 5 rfl (qh rfl hF ?_ ?_)<;>intro hF
 ·refine zKSBSR ?_
  obtain ⟨y1,hy1,hF,he1,b1,_,q1,cs2,hp1,hq1,hr1,hc2⟩:=s1.ix hF
  obtain ⟨p5,k5,rfl,s4⟩:=qJ hr1
  refine zxe hp1 hq1 he1 rfl (zc 0 (hc2.below h.below) rfl (qM qe h rfl rfl rfl fun w3 bb2 h=>zs 0 h rfl fun w4 h=>X1 5 0 h rfl (qbi qe [.tmp 18] _ ([y1.Am]:List ByteArray) h rfl rfl rfl rfl rfl rfl rfl rfl rfl ⟨rfl,trivial⟩ rfl fun w5 p6 S2 h=>?_)))
  obtain ⟨x2,hx1,hF⟩:=qf hF
  obtain ⟨g1,hx1⟩:=qdq hx1
  refine qgH qe 2 h rfl (h.sl 0 rfl).1 (h.sl 0 rfl).2 rfl rfl rfl rfl rfl rfl rfl rfl rfl g1 hx1 rfl fun w6 p7 k6 S3 h=>X0 7 rfl ?_
  replace h:=h.pick [2,3] rfl
  exact rK ⟨_,_,_,_,_,_,hF,rfl,h⟩ rfl
 refine qq rfl ?_
 obtain rfl:=qa hF;replace hF:=hK1
 refine X1 8 1 h rfl ?_
 replace h:=h.nil (α:=ByteArray)
 obtain ⟨o2,hF,hK2⟩:=qf hF
 refine qm (rL (fun m e w'=>∃ (S4:Nat→Prop) (p8:Option Addr) (ln2:Nat) (k7:Nat) (x3:(List ByteArray)) (i2:Int),qar d m x3 i2=some o2∧e=[(1,.pointer (some ⟨bb1,0,none⟩)),(3,.slice p4 x1.length k4),(4,.slice p8 ln2 k7),(23,.slice p3 d.Af.length k3),(24,.int .i64 (d.Af.length:Int)),(25,.int .i64 i2)]∧SH w w' [Ch.own S4 (x3:List ByteArray) [.slice p8 ln2 k7],Ch.own S1 (x1:List ByteArray) [.slice p4 x1.length k4],Ch.box bb1 (qaq d p1 p2 p3 k1 k2 k3) 45]) n ⟨_,_,_,_,_,_,hF,rfl,h⟩ rfl ?_)
 rintro m2 e2 w7 ⟨S4,p8,ln2,k7,x3,i2,hF,rfl,h⟩
 obtain rfl:=(h.sl 0 rfl).2
 rcases m2 with _|m2
 ·cases hF
 refine X0 5 rfl (qh rfl hF ?_ ?_)<;>intro hF
 ·refine zKSBSR ?_
  obtain ⟨y2,hy2,hF,he2,b2,_,q2,cs3,hp2,hq2,hr2,hc4⟩:=s3.ix hF
  obtain rfl:=qX hr2
  refine zxe hp2 hq2 he2 rfl (zc 0 (hc4.below h.below) rfl (qM qe h rfl rfl rfl fun w8 bb3 h=>zs 0 h rfl fun w9 h=>X1 5 0 h rfl (qbi qe [.tmp 31] _ ([y2.Am]:List ByteArray) h rfl rfl rfl rfl rfl rfl rfl rfl rfl ⟨rfl,trivial⟩ rfl fun w10 p9 S5 h=>?_)))
  obtain ⟨x4,hx2,hF⟩:=qf hF
  obtain ⟨g2,hx2⟩:=qdq hx2
  refine qgH qe 2 h rfl (h.sl 0 rfl).1 (h.sl 0 rfl).2 rfl rfl rfl rfl rfl rfl rfl rfl rfl g2 hx2 rfl fun w11 p10 k8 S6 h=>X0 7 rfl ?_
  replace h:=h.pick [2,3,4] rfl
  exact rK ⟨_,_,_,_,_,_,hF,rfl,h⟩ rfl
 refine qq rfl ?_
 obtain rfl:=qa hF;replace hF:=hK2
 refine X0 6 rfl (qg (t:=38) hF rfl ?_ ?_)<;>intro hF
 ·refine X1 10 2 h rfl (qg (t:=44) hF rfl ?_ ?_)<;>intro hF
  ·refine X0 8 rfl (qg (t:=49) hF rfl ?_ ?_)<;>intro hF
   ·refine X0 3 rfl (zcB h hF (qdf (h.own 1 rfl)) rfl fun r1 w12 h hF=>zp2 rfl (qg (t:=53) hF rfl ?_ ?_))<;>intro hF
    ·refine X1 5 2 h rfl (zcB h hF (qdf ⟨_,_,rfl,(h.oldS s2)⟩) rfl fun r2 w13 h hF=>zp2 rfl (qg (t:=58) hF rfl ?_ ?_))<;>intro hF
     ·exact X0 3 rfl (zcB h hF (qdf (h.own 0 rfl)) rfl fun r3 w14 h hF=>X0 3 rfl (rb h hF rfl))
     exact X0 5 rfl (rb h hF rfl)
    exact X0 10 rfl (rb h hF rfl)
   exact X0 14 rfl (rb h hF rfl)
  exact X0 19 rfl (rb h hF rfl)
 exact X0 25 rfl (rb h hF rfl)
def qdR (_:Nat) (list:(List qk)):Option Int :=
 some (list.length:Int)
theorem qg3 {list:(List qk)} (ha1:GoT.R w (old w) list cs1) {r:Int} (hF:qdR n list=some r):RetV Tryz.prog 263 [GoT.v (List qk) cs1] w r:=by
 obtain ⟨p1,k1,rfl,s1⟩:=ha1
 exact zV 5 Tryz.func263 rfl fun h=>X0 10 rfl (ri h hF rfl)
def qbH (n:Nat) (net:Int) (v0:qd):Option Bool :=
 (qaV n v0 net).bind fun r1 =>
 some (!r1)
theorem qf7 {net:Int} {v0:qd} {p1:Option Addr} (ha1:GoT.R w (old w) (some v0) [.pointer p1]) {r:Bool} (hF:qbH n net v0=some r):RetV Tryz.prog 264 [.int .i64 net,.pointer p1] w r:=by
 obtain ⟨b1,o_1,cs1,rfl,-,hr1,hc1⟩:=PtR.get ha1 rfl
 obtain ⟨p2,k1,p3,k2,p4,k3,rfl,s1,s2,s3⟩:=qag hr1
 exact zV 8 Tryz.func264 rfl fun h=>X0 6 rfl (zc 0 (hc1.below h.below) rfl (zp1 rfl (zcB h hF (qbK (qbs v0 (h.oldS s1) (h.oldS s2) (h.oldS s3))) rfl fun r1 w1 h hF=>X0 3 rfl (rb h hF rfl))))
def qt (s:(List Int)) (f_0:qd):Nat→Int→Option (Flow Int Int)
 | 0,_=>none
 | n+1,i1 =>
  bif decide (i1<(s.length:Int)) then
   (idx s i1).bind fun y1 =>
   (qbH n y1 f_0).bind fun r1 =>
   bif r1 then some (.ret i1) else
   qt s f_0 n (W64 (i1+1))
  else
   some (.nxt i1)
def qaf (n:Nat) (s:(List Int)) (f_0:qd):Option Int :=
 (qt s f_0 n 0).bind fun o=>match o with
 | .ret r=>some r
 | .nxt _ =>
  some (-1)
theorem qcB {s:(List Int)} {f_0:qd} (ha1:GoT.R w (old w) s cs1) {p2:Option Addr} (ha2:GoT.R w (old w) (some f_0) [.pointer p2]) {r:Int} (hF:qaf n s f_0=some r):RetV Tryz.prog 176 [GoT.v (List Int) cs1,.func (.func 264) #[] #[.pointer p2]] w r:=by
 obtain ⟨p1,k1,rfl,s1⟩:=ha1
 obtain ⟨b1,o_1,cs2,rfl,-,hr1,hc1⟩:=PtR.get ha2 rfl
 obtain ⟨p3,k2,p4,k3,p5,k4,rfl,s2,s3,s4⟩:=qag hr1
 refine zV 19 Tryz.func176 rfl fun h=>X0 11 rfl ?_
 obtain ⟨o1,hF,hK1⟩:=qf hF
 refine qm (rL (fun m e w'=>∃ (i1:Int),qt s f_0 m i1=some o1∧e=[(0,.slice p1 s.length k1),(1,.func (.func 264) #[] #[.pointer (some ⟨b1,o_1,none⟩)]),(7,.int .i64 (s.length:Int)),(8,.int .i64 i1)]∧SH w w' []) n ⟨_,hF,rfl,h⟩ rfl ?_)
 rintro m1 e1 w1 ⟨i1,hF,rfl,h⟩
 rcases m1 with _|m1
 ·cases hF
 refine X0 5 rfl (qh rfl hF ?_ ?_)<;>intro hF
 ·refine X0 13 rfl ?_
  obtain ⟨y1,hy1,hF,he1,b2,_,q1,cs3,hp1,hq1,rfl,hc3⟩:=s1.ix hF
  refine zxe hp1 hq1 he1 rfl (zc 0 (hc3.below h.below) rfl (zcB h hF (qf7 (h.old ha2)) rfl fun r1 w2 h hF=>qd1 (qh rfl hF ?_ ?_)))<;>intro hF
  ·refine X0 5 rfl ?_
   obtain rfl:=qa hF;replace hF:=hK1
   exact ri h hF rfl
  exact X0 6 rfl (rK ⟨_,hF,rfl,h⟩ rfl)
 refine qq rfl ?_
 obtain rfl:=qa hF;replace hF:=hK1
 exact X0 4 rfl (ri h hF rfl)
def qY (n:Nat) (s:(List Int)) (f_0:qd):Option Bool :=
 (qaf n s f_0).bind fun r1 =>
 some (decide (r1 ≥ 0))
theorem qbZ {s:(List Int)} {f_0:qd} (ha1:GoT.R w (old w) s cs1) {p2:Option Addr} (ha2:GoT.R w (old w) (some f_0) [.pointer p2]) {r:Bool} (hF:qY n s f_0=some r):RetV Tryz.prog 93 [GoT.v (List Int) cs1,.func (.func 264) #[] #[.pointer p2]] w r:=by
 obtain ⟨p1,k1,rfl,s1⟩:=ha1
 obtain ⟨b1,o_1,cs2,rfl,-,hr1,hc1⟩:=PtR.get ha2 rfl
 obtain ⟨p3,k2,p4,k3,p5,k4,rfl,s2,s3,s4⟩:=qag hr1
 exact zV 9 Tryz.func93 rfl fun h=>X0 8 rfl (zcI h hF (qcB ⟨_,_,rfl,(h.oldS s1)⟩ (h.old ha2)) rfl fun r1 w1 h hF=>X0 3 rfl (rb h hF rfl))
def qb5 (n:Nat) (d:qd) (l:qn) (x:qc):Option Bool :=
 (qdR n l.Aj).bind fun r1 =>
 (qal n x.Bj 0 (W64 (r1-1))).bind fun r2 =>
 bif r2 then
  (idx l.Aj x.Bj).bind fun y1 =>
  bif ((x.Ac.length:Int)==(y1.Ai.length:Int)) then
   (qY n x.Ac d).bind fun r3 =>
   some (!r3)
  else
   some false
 else
  some false
theorem qgM {d:qd} {l:qn} {x:qc} (ha1:GoT.R w (old w) d cs1) (ha2:GoT.R w (old w) l cs2) (ha3:GoT.R w (old w) x cs3) {r:Bool} (hF:qb5 n d l x=some r):RetV Tryz.prog 216 [GoT.v qd cs1,GoT.v qn cs2,GoT.v qc cs3] w r:=by
 obtain ⟨p1,k1,p2,k2,p3,k3,rfl,s1,s2,s3⟩:=qag ha1
 obtain ⟨p4,k4,rfl,s4⟩:=qa0 ha2
 obtain ⟨p5,k5,rfl,s5⟩:=qJ ha3
 refine zV 35 Tryz.func216 rfl fun h=>zSR (qy h rfl rfl fun w1 bb1 h=>qy h rfl rfl fun w2 bb2 h=>qy h rfl rfl fun w3 bb3 h=>X0 3 rfl (rD (Y1 2 0 h rfl ?_)))
 refine Y1 2 1 h rfl ?_
 obtain ⟨r1,hr1,hF⟩:=qf hF
 refine qbz r1 (vsI _) (cB 263 rfl) (fun _ hb=>qg3 ⟨_,_,rfl,((h.ext hb).oldS s4)⟩ hr1) rfl rfl rfl rfl (zd1 rfl ?_)
 obtain ⟨r2,hr2,hF⟩:=qf hF
 refine qbz r2 (vsB _) (cB 114 rfl) (fun _ hb=>qW  hr2) rfl rfl rfl rfl (zd1 rfl (qaH (t:=14) hF rfl ?_ ?_))<;>intro hF
 ·refine Y1 4 0 h rfl ?_
  refine Y1 6 1 h rfl ?_
  refine Y1 4 0 h rfl ?_
  refine Y0 1 rfl ?_
  obtain ⟨y1,hy1,hF,he1,b1,_,q1,cs4,hp1,hq1,hr3,hc1⟩:=s4.ix hF
  obtain ⟨p6,k6,p7,k7,p8,k8,rfl,s6,s7,s8⟩:=qI hr3
  refine zdxe hp1 hq1 he1 rfl (Y0 3 rfl (zdc 2 (hc1.below h.below) rfl (Y0 6 rfl (qaH (t:=28) hF rfl ?_ ?_))))<;>intro hF
  ·refine Y1 4 0 h rfl ?_
   refine Y0 3 rfl ?_
   obtain ⟨r3,hr4,hF⟩:=qf hF
   exact qbz r3 (vsB _) (cB 93 rfl) (fun _ hb=>qbZ ⟨_,_,rfl,((h.ext hb).oldS s5)⟩ (qg9 (x:=d) 2 (h.ext hb) rfl ((h.ext hb).old ha1)) hr4) rfl rfl rfl rfl (Y0 4 rfl (dN h fun w4 h=>rb h hF rfl))
  exact Y0 7 rfl (dN h fun w5 h=>rb h hF rfl)
 exact Y0 21 rfl (dN h fun w6 h=>rb h hF rfl)
def qfY (_:Nat) (a_n:Int):Option Bool :=
 some (a_n != 1)
theorem qiL {a_n:Int}  {r:Bool} (hF:qfY n a_n=some r):RetV Tryz.prog 218 [.int .i64 a_n] w r:=by
 exact zV 5 Tryz.func218 rfl fun h=>X0 10 rfl (rb h hF rfl)
def qG (s:(List Int)):Nat→Int→Option (Flow Int Int)
 | 0,_=>none
 | n+1,i1 =>
  bif decide (i1<(s.length:Int)) then
   (idx s i1).bind fun y1 =>
   (qfY n y1).bind fun r1 =>
   bif r1 then some (.ret i1) else
   qG s n (W64 (i1+1))
  else
   some (.nxt i1)
def qaR (n:Nat) (s:(List Int)):Option Int :=
 (qG s n 0).bind fun o=>match o with
 | .ret r=>some r
 | .nxt _ =>
  some (-1)
theorem qdW {s:(List Int)} (ha1:GoT.R w (old w) s cs1) {r:Int} (hF:qaR n s=some r):RetV Tryz.prog 265 [GoT.v (List Int) cs1,.func (.func 218) #[] #[]] w r:=by
 obtain ⟨p1,k1,rfl,s1⟩:=ha1
 refine zV 19 Tryz.func265 rfl fun h=>X0 11 rfl ?_
 obtain ⟨o1,hF,hK1⟩:=qf hF
 refine qm (rL (fun m e w'=>∃ (i1:Int),qG s m i1=some o1∧e=[(0,.slice p1 s.length k1),(1,.func (.func 218) #[] #[]),(7,.int .i64 (s.length:Int)),(8,.int .i64 i1)]∧SH w w' []) n ⟨_,hF,rfl,h⟩ rfl ?_)
 rintro m1 e1 w1 ⟨i1,hF,rfl,h⟩
 rcases m1 with _|m1
 ·cases hF
 refine X0 5 rfl (qh rfl hF ?_ ?_)<;>intro hF
 ·refine X0 13 rfl ?_
  obtain ⟨y1,hy1,hF,he1,b1,_,q1,cs2,hp1,hq1,rfl,hc2⟩:=s1.ix hF
  refine zxe hp1 hq1 he1 rfl (zc 0 (hc2.below h.below) rfl (zcB h hF qiL rfl fun r1 w2 h hF=>qd1 (qh rfl hF ?_ ?_)))<;>intro hF
  ·refine X0 5 rfl ?_
   obtain rfl:=qa hF;replace hF:=hK1
   exact ri h hF rfl
  exact X0 6 rfl (rK ⟨_,hF,rfl,h⟩ rfl)
 refine qq rfl ?_
 obtain rfl:=qa hF;replace hF:=hK1
 exact X0 4 rfl (ri h hF rfl)
def qaJ (n:Nat) (s:(List Int)):Option Bool :=
 (qaR n s).bind fun r1 =>
 some (decide (r1 ≥ 0))
theorem qdt {s:(List Int)} (ha1:GoT.R w (old w) s cs1) {r:Bool} (hF:qaJ n s=some r):RetV Tryz.prog 217 [GoT.v (List Int) cs1,.func (.func 218) #[] #[]] w r:=by
 obtain ⟨p1,k1,rfl,s1⟩:=ha1
 exact zV 9 Tryz.func217 rfl fun h=>X0 8 rfl (zcI h hF (qdW ⟨_,_,rfl,(h.oldS s1)⟩) rfl fun r1 w1 h hF=>X0 3 rfl (rb h hF rfl))
def qa4 (a_1:qd):Nat→(List Int)→Int→Option (Flow Bool ((List Int) × Int))
 | 0,_,_=>none
 | n+1,x3,i2 =>
  bif decide (i2<(a_1.Af.length:Int)) then
   (idx a_1.Af i2).bind fun y5 =>
   (
    bif (y5.Bh != 1) then
     bif (y5.Bh != 2) then some true else
     (qaV n a_1 y5.Bk).bind fun r2 =>
     some (!r2)
    else
     (qaV n a_1 y5.Bk).bind fun r3 =>
     some (!r3)).bind fun b7 =>
   bif b7 then some (.ret false) else
   bif (y5.Bh==1) then
    (idx x3 y5.Bk).bind fun y6 =>
    (idx x3 y5.Bk).bind fun _ =>
    qa4 a_1 n (setS x3 y5.Bk (W64 (y6+1))) (W64 (i2+1))
   else
    qa4 a_1 n x3 (W64 (i2+1))
  else
   some (.nxt (x3,i2))
def qbF (a_0:qn) (a_1:qd):Nat→(List Int)→Int→Option (Flow Bool ((List Int) × Int))
 | 0,_,_=>none
 | n+1,x2,i1 =>
  bif decide (i1<(a_1.Aa.length:Int)) then
   (idx a_1.Aa i1).bind fun y1 =>
   (qb5 n a_1 a_0 y1).bind fun r1 =>
   bif (!r1) then some (.ret false) else
   (idx y1.Ac (W64 ((y1.Ac.length:Int)-1))).bind fun y2 =>
   (idx x2 y2).bind fun y3 =>
   (idx x2 y2).bind fun _ =>
   qbF a_0 a_1 n (setS x2 y2 (W64 (y3+1))) (W64 (i1+1))
  else
   some (.nxt (x2,i1))
def qfA (n:Nat) (a_0:qn) (a_1:qd):Option Bool :=
 (
  (qeX n a_0).bind fun r5 =>
  bif (!r5) then some true else
  (qcO n a_1).bind fun r6 =>
  some (!r6)).bind fun b1 =>
 bif b1 then some false else
 (mkS (a_1.Ac.length:Int) (0:Int)).bind fun x1 =>
 (qbF a_0 a_1 n x1 0).bind fun o=>match o with
 | .ret r=>some r
 | .nxt (x2,_) =>
  (qa4 a_1 n x2 0).bind fun o=>match o with
  | .ret r=>some r
  | .nxt (x3,_) =>
   (qaJ n x3).bind fun r4 =>
   some (!r4)
theorem qjv {a_0:qn} {a_1:qd} (ha1:GoT.R w (old w) a_0 cs1) (ha2:GoT.R w (old w) a_1 cs2) {r:Bool} (hF:qfA n a_0 a_1=some r):RetV Tryz.prog 139 [GoT.v qn cs1,GoT.v qd cs2] w r:=by
 obtain ⟨p1,k1,rfl,s1⟩:=qa0 ha1
 obtain ⟨p2,k2,p3,k3,p4,k4,rfl,s2,s3,s4⟩:=qag ha2
 refine zV 84 Tryz.func139 rfl fun h=>zSR (qy h rfl rfl fun w1 bb1 h=>qy h rfl rfl fun w2 bb2 h=>X0 4 rfl ?_)
 obtain ⟨KF2,hKF2,o4,hF,hK4⟩:=bindE hF
 refine qcw (fun e w'=>∃ (b1:Bool),KF2 b1=some r∧e=[(2,.pointer (some ⟨bb1,0,none⟩)),(3,.pointer (some ⟨bb2,0,none⟩)),(17,.bool b1)]∧SH w w' [Ch.box bb2 (qaq a_1 p2 p3 p4 k2 k3 k4) 45,Ch.box bb1 [.slice p1 a_0.Aj.length k1] 41]) ?_ ?_
 ·refine X1 2 1 h rfl (zcB h hF (qi1 (h.old ha1)) rfl fun r5 w17 h hF=>zp2 rfl (qg (t:=13) hF rfl ?_ ?_))<;>intro hF
  ·refine X0 5 rfl ?_
   obtain rfl:=qa hF
   exact rG ⟨_,hK4,rfl,h⟩ rfl
  refine X1 3 0 h rfl (zcB h hF (qg6 (h.old ha2)) rfl fun r6 w18 h hF=>X0 4 rfl ?_)
  obtain rfl:=qa hF
  exact rG ⟨_,hK4,rfl,h⟩ rfl
 rintro e4 w19 ⟨b1,hF,rfl,h⟩
 subst hKF2
 refine qh rfl hF ?_ ?_<;>intro hF
 ·exact X0 4 rfl (rb h hF rfl)
 refine X1 6 0 h rfl ?_
 obtain ⟨x1,hx1,hF⟩:=qf hF
 obtain ⟨g1,g2,hx1⟩:=qb4 hx1
 refine qc6 qe Int h rfl rfl rfl rfl rfl rfl rfl rfl rfl g1 g2 hx1 rfl fun w3 S1 p5 h=>X1 10 1 h rfl ?_
 obtain ⟨o1,hF,hK1⟩:=qf hF
 refine qm (rL (fun m e w'=>∃ (x2:(List Int)) (i1:Int),qbF a_0 a_1 m x2 i1=some o1∧e=[(2,.pointer (some ⟨bb1,0,none⟩)),(3,.pointer (some ⟨bb2,0,none⟩)),(5,.slice p5 x1.length x1.length),(23,.slice p2 a_1.Aa.length k2),(24,.int .i64 (a_1.Aa.length:Int)),(25,.int .i64 i1)]∧SH w w' [Ch.own S1 (x2:List Int) [.slice p5 x1.length x1.length],Ch.box bb2 (qaq a_1 p2 p3 p4 k2 k3 k4) 45,Ch.box bb1 [.slice p1 a_0.Aj.length k1] 41]) n ⟨_,_,hF,rfl,h⟩ rfl ?_)
 rintro m1 e1 w4 ⟨x2,i1,hF,rfl,h⟩
 rcases m1 with _|m1
 ·cases hF
 refine X0 5 rfl (qh rfl hF ?_ ?_)<;>intro hF
 ·refine zKSBSR ?_
  obtain ⟨y1,hy1,hF,he1,b2,_,q1,cs3,hp1,hq1,hr1,hc3⟩:=s2.ix hF
  obtain ⟨p6,k5,rfl,s5⟩:=qJ hr1
  refine zxe hp1 hq1 he1 rfl (zc 0 (hc3.below h.below) rfl (qM qe h rfl rfl rfl fun w5 bb3 h=>zs 0 h rfl fun w6 h=>X3 7 2 3 0 h rfl (zcB h hF (qgM (h.old ha2) (h.old ha1) (qev y1 (h.oldS s5))) rfl fun r1 w7 h hF=>X0 2 rfl (qh rfl hF ?_ ?_))))<;>intro hF
  ·refine X0 4 rfl ?_
   obtain rfl:=qa hF;replace hF:=hK1
   exact rb h hF rfl
  refine X2 9 0 0 h rfl ?_
  obtain ⟨y2,hy2,hF,he2,b3,_,q2,cs4,hp2,hq2,rfl,hc5⟩:=s5.ix hF
  refine zxe hp2 hq2 he2 rfl (zc 0 (hc5.below h.below) rfl ?_)
  obtain ⟨y3,hy3,hF,he3,b4,_,q3,cs5,hp3,hq3,rfl,hc6⟩:=(h.sl 1 rfl).1.ix hF
  refine zx hp3 hq3 ⟨he3.1,qK he3.2.1 (h.sl 1 rfl).2⟩ rfl (zc 0 hc6 rfl (zp1 rfl ?_))
  obtain ⟨y4,hy4,hF,he4,b5,_,q4,cs6,hp4,hq4,rfl,hc7⟩:=(h.sl 1 rfl).1.ix hF
  refine zx hp4 hq4 ⟨he4.1,qK he4.2.1 (h.sl 1 rfl).2⟩ rfl (qaN qe 1 0 (W64 (y3+1)) h rfl hy4 hp4 hq4 rfl hc7 rfl rfl rfl rfl rfl rfl rfl fun w8 h=>X0 6 rfl ?_)
  replace h:=h.pick [1,2,3] rfl
  exact rK ⟨_,_,hF,rfl,h⟩ rfl
 refine qq rfl ?_
 obtain rfl:=qa hF;replace hF:=hK1
 refine X1 8 1 h rfl ?_
 obtain ⟨o2,hF,hK2⟩:=qf hF
 refine qm ?_
 replace h:=h.pick [0,1] rfl
 refine rL (fun m e w'=>∃ (x3:(List Int)) (i2:Int),qa4 a_1 m x3 i2=some o2∧e=[(3,.pointer (some ⟨bb2,0,none⟩)),(5,.slice p5 x1.length x1.length),(49,.slice p4 a_1.Af.length k4),(50,.int .i64 (a_1.Af.length:Int)),(51,.int .i64 i2)]∧SH w w' [Ch.own S1 (x3:List Int) [.slice p5 x1.length x1.length],Ch.box bb2 (qaq a_1 p2 p3 p4 k2 k3 k4) 45]) n ⟨_,_,hF,rfl,h⟩ rfl ?_
 rintro m2 e2 w9 ⟨x3,i2,hF,rfl,h⟩
 rcases m2 with _|m2
 ·cases hF
 refine X0 5 rfl (qh rfl hF ?_ ?_)<;>intro hF
 ·refine zKSBSR ?_
  obtain ⟨y5,hy5,hF,he5,b6,_,q5,cs7,hp5,hq5,hr6,hc9⟩:=s4.ix hF
  obtain rfl:=qX hr6
  refine zxe hp5 hq5 he5 rfl (zc 0 (hc9.below h.below) rfl (qM qe h rfl rfl rfl fun w10 bb4 h=>zs 0 h rfl fun w11 h=>zNSS ?_))
  obtain ⟨KF1,hKF1,o3,hF,hK3⟩:=bindE hF
  refine qcw (fun e w'=>∃ (b7:Bool),KF1 b7=some o2∧e=[(3,.pointer (some ⟨bb2,0,none⟩)),(5,.slice p5 x1.length x1.length),(9,.pointer (some ⟨bb4,0,none⟩)),(49,.slice p4 a_1.Af.length k4),(50,.int .i64 (a_1.Af.length:Int)),(51,.int .i64 i2),(69,.bool b7)]∧SH w w' [Ch.box bb4 (qke y5) 302,Ch.own S1 (x3:List Int) [.slice p5 x1.length x1.length],Ch.box bb2 (qaq a_1 p2 p3 p4 k2 k3 k4) 45]) ?_ ?_
  ·refine X1 5 0 h rfl (qg (t:=58) hF rfl ?_ ?_)<;>intro hF
   ·refine X1 8 0 h rfl (qg (t:=63) hF rfl ?_ ?_)<;>intro hF
    ·refine X0 7 rfl ?_
     obtain rfl:=qa hF
     exact rG ⟨_,hK3,rfl,h⟩ rfl
    refine X2 7 2 0 h rfl (zcB h hF (qbK (h.old ha2)) rfl fun r2 w13 h hF=>X0 4 rfl ?_)
    obtain rfl:=qa hF
    exact rG ⟨_,hK3,rfl,h⟩ rfl
   refine X2 12 2 0 h rfl (zcB h hF (qbK (h.old ha2)) rfl fun r3 w14 h hF=>X0 4 rfl ?_)
   obtain rfl:=qa hF
   exact rG ⟨_,hK3,rfl,h⟩ rfl
  rintro e3 w15 ⟨b7,hF,rfl,h⟩
  subst hKF1
  refine qh rfl hF ?_ ?_<;>intro hF
  ·refine X0 4 rfl ?_
   obtain rfl:=qa hF;replace hF:=hK2
   exact rb h hF rfl
  refine X1 7 0 h rfl (qh rfl hF ?_ ?_)<;>intro hF
  ·refine X1 4 0 h rfl ?_
   obtain ⟨y6,hy6,hF,he6,b8,_,q6,cs8,hp6,hq6,rfl,hc12⟩:=(h.sl 1 rfl).1.ix hF
   refine zx hp6 hq6 ⟨he6.1,qK he6.2.1 (h.sl 1 rfl).2⟩ rfl (zc 0 hc12 rfl (zp1 rfl ?_))
   obtain ⟨y7,hy7,hF,he7,b9,_,q7,cs9,hp7,hq7,rfl,hc13⟩:=(h.sl 1 rfl).1.ix hF
   refine zx hp7 hq7 ⟨he7.1,qK he7.2.1 (h.sl 1 rfl).2⟩ rfl (qaN qe 1 0 (W64 (y6+1)) h rfl hy7 hp7 hq7 rfl hc13 rfl rfl rfl rfl rfl rfl rfl fun w12 h=>X0 6 rfl ?_)
   replace h:=h.pick [1,2] rfl
   exact rK ⟨_,_,hF,rfl,h⟩ rfl
  refine X0 6 rfl ?_
  replace h:=h.pick [1,2] rfl
  exact rK ⟨_,_,hF,rfl,h⟩ rfl
 refine qq rfl ?_
 obtain rfl:=qa hF;replace hF:=hK2
 exact X0 3 rfl (zcB h hF (qdt (h.own 0 rfl)) rfl fun r4 w16 h hF=>X0 3 rfl (rb h hF rfl))
def qaG (i1:Int) (y1:qc):Nat→(List Tplace)→Int→Option ((List Tplace) × Int)
 | 0,_,_=>none
 | n+1,x2,i2 =>
  bif decide (i2<(y1.Ac.length:Int)) then
   (idx y1.Ac i2).bind fun y2 =>
   (appS x2 ([(⟨i1,i2,y2,(i2==(W64 ((y1.Ac.length:Int)-1)))⟩:Tplace)]:List Tplace)).bind fun x3 =>
   qaG i1 y1 n x3 (W64 (i2+1))
  else
   some (x2,i2)
def qaD (d:qd):Nat→(List Tplace)→Int→Option ((List Tplace) × Int)
 | 0,_,_=>none
 | n+1,x4,i3 =>
  bif decide (i3<(d.Af.length:Int)) then
   (idx d.Af i3).bind fun y3 =>
   (appS x4 ([(⟨(-1),i3,y3.Bk,(y3.Bh==1)⟩:Tplace)]:List Tplace)).bind fun x5 =>
   qaD d n x5 (W64 (i3+1))
  else
   some (x4,i3)
def qaE (d:qd):Nat→(List Tplace)→Int→Option ((List Tplace) × Int)
 | 0,_,_=>none
 | n+1,x1,i1 =>
  bif decide (i1<(d.Aa.length:Int)) then
   (idx d.Aa i1).bind fun y1 =>
   (qaG i1 y1 n x1 0).bind fun o=>match o with
   | (x2,_) =>
    qaE d n x2 (W64 (i1+1))
  else
   some (x1,i1)
def qds (n:Nat) (d:qd):Option (List Tplace) :=
 (qaE d n ([]:List Tplace) 0).bind fun o=>match o with
 | (x1,_) =>
  (qaD d n x1 0).bind fun o=>match o with
  | (x4,_) =>
   some x4
theorem qhD {d:qd} (ha1:GoT.R w (old w) d cs1) {r:(List Tplace)} (hF:qds n d=some r):RetV Tryz.prog 140 [GoT.v qd cs1] w r:=by
 obtain ⟨p1,k1,p2,k2,p3,k3,rfl,s1,s2,s3⟩:=qag ha1
 refine zV 61 Tryz.func140 rfl fun h=>zSR (qy h rfl rfl fun w1 bb1 h=>X1 14 0 h rfl ?_)
 replace h:=h.nil (α:=Tplace)
 obtain ⟨o1,hF,hK1⟩:=qf hF
 refine qm (rL (fun m e w'=>∃ (S1:Nat→Prop) (p4:Option Addr) (ln1:Nat) (k4:Nat) (x1:(List Tplace)) (i1:Int),qaE d m x1 i1=some o1∧e=[(1,.pointer (some ⟨bb1,0,none⟩)),(3,.slice p4 ln1 k4),(11,.slice p1 d.Aa.length k1),(12,.int .i64 (d.Aa.length:Int)),(13,.int .i64 i1)]∧SH w w' [Ch.own S1 (x1:List Tplace) [.slice p4 ln1 k4],Ch.box bb1 (qaq d p1 p2 p3 k1 k2 k3) 45]) n ⟨_,_,_,_,_,_,hF,rfl,h⟩ rfl ?_)
 rintro m1 e1 w2 ⟨S1,p4,ln1,k4,x1,i1,hF,rfl,h⟩
 obtain rfl:=(h.sl 0 rfl).2
 rcases m1 with _|m1
 ·cases hF
 refine X0 5 rfl (qh rfl hF ?_ ?_)<;>intro hF
 ·refine X0 6 rfl ?_
  obtain ⟨y1,hy1,hF,he1,b1,_,q1,cs2,hp1,hq1,hr1,hc2⟩:=s1.ix hF
  obtain ⟨p5,k5,rfl,s4⟩:=qJ hr1
  refine zxe hp1 hq1 he1 rfl (zc 0 (hc2.below h.below) rfl (qM qe h rfl rfl rfl fun w3 bb2 h=>zp1 rfl (zs 0 h rfl fun w4 h=>X1 8 0 h rfl ?_)))
  obtain ⟨o2,hF,hK2⟩:=qf hF
  refine qm (rL (fun m e w'=>∃ (S2:Nat→Prop) (p6:Option Addr) (ln2:Nat) (k6:Nat) (x2:(List Tplace)) (i2:Int),qaG i1 y1 m x2 i2=some o2∧e=[(1,.pointer (some ⟨bb1,0,none⟩)),(3,.slice p6 ln2 k6),(4,.int .i64 i1),(5,.pointer (some ⟨bb2,0,none⟩)),(11,.slice p1 d.Aa.length k1),(12,.int .i64 (d.Aa.length:Int)),(13,.int .i64 i1),(19,.slice p5 y1.Ac.length k5),(20,.int .i64 (y1.Ac.length:Int)),(21,.int .i64 i2)]∧SH w w' [Ch.box bb2 (qfC y1 p5 k5) 184,Ch.own S2 (x2:List Tplace) [.slice p6 ln2 k6],Ch.box bb1 (qaq d p1 p2 p3 k1 k2 k3) 45]) m1 ⟨_,_,_,_,_,_,hF,rfl,h⟩ rfl ?_)
  rintro m2 e2 w5 ⟨S2,p6,ln2,k6,x2,i2,hF,rfl,h⟩
  obtain rfl:=(h.sl 1 rfl).2
  rcases m2 with _|m2
  ·cases hF
  refine X0 5 rfl (qh rfl hF ?_ ?_)<;>intro hF
  ·refine X0 6 rfl ?_
   obtain ⟨y2,hy2,hF,he2,b2,_,q2,cs3,hp2,hq2,rfl,hc4⟩:=s4.ix hF
   refine zxe hp2 hq2 he2 rfl (zc 0 (hc4.below h.below) rfl (X1 14 0 h rfl (r_v (qh8 qe [0,1,2,3] [.tmp 27,.tmp 28,.tmp 29,.tmp 35] rfl rfl rfl rfl rfl rfl rfl rfl) rfl (qbi qe [.tmp 36] _ ([(⟨i1,i2,y2,(i2==(W64 ((y1.Ac.length:Int)-1)))⟩:Tplace)]:List Tplace) h rfl rfl rfl rfl rfl rfl rfl rfl rfl ⟨(qkC (⟨i1,i2,y2,(i2==(W64 ((y1.Ac.length:Int)-1)))⟩:Tplace)),trivial⟩ rfl fun w6 p7 S3 h=>?_))))
   obtain ⟨x3,hx1,hF⟩:=qf hF
   obtain ⟨g1,hx1⟩:=qdq hx1
   refine qgH qe 2 h rfl (h.sl 0 rfl).1 (h.sl 0 rfl).2 rfl rfl rfl rfl rfl rfl rfl rfl rfl g1 hx1 rfl fun w7 p8 k7 S4 h=>X0 7 rfl ?_
   replace h:=h.pick [1,2,3] rfl
   exact rK ⟨_,_,_,_,_,_,hF,rfl,h⟩ rfl
  refine qq rfl ?_
  obtain rfl:=qa hF;replace hF:=hK2
  refine X0 5 rfl ?_
  replace h:=h.pick [1,2] rfl
  exact rK ⟨_,_,_,_,_,_,hF,rfl,h⟩ rfl
 refine qq rfl ?_
 obtain rfl:=qa hF;replace hF:=hK1
 refine X1 8 1 h rfl ?_
 obtain ⟨o3,hF,hK3⟩:=qf hF
 refine qm ?_
 replace h:=h.pick [0] rfl
 refine rL (fun m e w'=>∃ (S5:Nat→Prop) (p9:Option Addr) (ln3:Nat) (k8:Nat) (x4:(List Tplace)) (i3:Int),qaD d m x4 i3=some o3∧e=[(3,.slice p9 ln3 k8),(42,.slice p3 d.Af.length k3),(43,.int .i64 (d.Af.length:Int)),(44,.int .i64 i3)]∧SH w w' [Ch.own S5 (x4:List Tplace) [.slice p9 ln3 k8]]) n ⟨_,_,_,_,_,_,hF,rfl,h⟩ rfl ?_
 rintro m3 e3 w8 ⟨S5,p9,ln3,k8,x4,i3,hF,rfl,h⟩
 obtain rfl:=(h.sl 0 rfl).2
 rcases m3 with _|m3
 ·cases hF
 refine X0 5 rfl (qh rfl hF ?_ ?_)<;>intro hF
 ·refine X0 6 rfl ?_
  obtain ⟨y3,hy3,hF,he3,b3,_,q3,cs4,hp3,hq3,hr3,hc6⟩:=s3.ix hF
  obtain rfl:=qX hr3
  refine zxe hp3 hq3 he3 rfl (zc 0 (hc6.below h.below) rfl (qM qe h rfl rfl rfl fun w9 bb3 h=>zp1 rfl (zs 0 h rfl fun w10 h=>X2 9 0 0 h rfl (r_v (qh8 qe [0,1,2,3] [.const (.int .i64 (-1)),.tmp 50,.tmp 52,.tmp 55] rfl rfl rfl rfl rfl rfl rfl rfl) rfl (qbi qe [.tmp 56] _ ([(⟨(-1),i3,y3.Bk,(y3.Bh==1)⟩:Tplace)]:List Tplace) h rfl rfl rfl rfl rfl rfl rfl rfl rfl ⟨(qkC (⟨(-1),i3,y3.Bk,(y3.Bh==1)⟩:Tplace)),trivial⟩ rfl fun w11 p10 S6 h=>?_)))))
  obtain ⟨x5,hx2,hF⟩:=qf hF
  obtain ⟨g2,hx2⟩:=qdq hx2
  refine qgH qe 2 h rfl (h.sl 0 rfl).1 (h.sl 0 rfl).2 rfl rfl rfl rfl rfl rfl rfl rfl rfl g2 hx2 rfl fun w12 p11 k9 S7 h=>X0 7 rfl ?_
  replace h:=h.pick [2] rfl
  exact rK ⟨_,_,_,_,_,_,hF,rfl,h⟩ rfl
 refine qq rfl ?_
 obtain rfl:=qa hF;replace hF:=hK3
 refine X0 5 rfl ?_
 obtain rfl:=qa hF
 exact rO 0 h rfl ⟨rfl,trivial⟩
def qam (a_w:qr):Nat→Int→Option (Flow Bool Int)
 | 0,_=>none
 | n+1,i1 =>
  bif decide (i1<(a_w.Ah.length:Int)) then
   (idx a_w.Ah i1).bind fun y1 =>
   bif (i1==0) then
    bif (y1 != (-1)) then some (.ret false) else
    (idx a_w.Bi 0).bind fun y2 =>
    bif (y2 != 0) then some (.ret false) else
    bif decide (i1 > 0) then
     (qal n y1 0 (W64 (i1-1))).bind fun r1 =>
     bif (!r1) then some (.ret false) else
     qam a_w n (W64 (i1+1))
    else
     qam a_w n (W64 (i1+1))
   else
    bif decide (i1 > 0) then
     (qal n y1 0 (W64 (i1-1))).bind fun r2 =>
     bif (!r2) then some (.ret false) else
     qam a_w n (W64 (i1+1))
    else
     qam a_w n (W64 (i1+1))
  else
   some (.nxt i1)
def qd9 (n:Nat) (a_w:qr):Option Bool :=
 (qam a_w n 0).bind fun o=>match o with
 | .ret r=>some r
 | .nxt _ =>
  some true
theorem qie {a_w:qr} (ha1:GoT.R w (old w) a_w cs1) {r:Bool} (hF:qd9 n a_w=some r):RetV Tryz.prog 219 [GoT.v qr cs1] w r:=by
 obtain ⟨p1,k1,p2,k2,p3,k3,p4,k4,rfl,s1,s2,s3,s4⟩:=qaS ha1
 refine zV 38 Tryz.func219 rfl fun h=>zSR (qy h rfl rfl fun w1 bb1 h=>X1 10 0 h rfl ?_)
 obtain ⟨o1,hF,hK1⟩:=qf hF
 refine qm (rL (fun m e w'=>∃ (i1:Int),qam a_w m i1=some o1∧e=[(1,.pointer (some ⟨bb1,0,none⟩)),(6,.slice p1 a_w.Ah.length k1),(7,.int .i64 (a_w.Ah.length:Int)),(8,.int .i64 i1)]∧SH w w' [Ch.box bb1 (qhl a_w p1 p2 p3 p4 k1 k2 k3 k4) 215]) n ⟨_,hF,rfl,h⟩ rfl ?_)
 rintro m1 e1 w2 ⟨i1,hF,rfl,h⟩
 rcases m1 with _|m1
 ·cases hF
 refine X0 5 rfl (qh rfl hF ?_ ?_)<;>intro hF
 ·refine X0 6 rfl ?_
  obtain ⟨y1,hy1,hF,he1,b1,_,q1,cs2,hp1,hq1,rfl,hc2⟩:=s1.ix hF
  refine zxe hp1 hq1 he1 rfl (zc 0 (hc2.below h.below) rfl (X0 8 rfl (qg (t:=15) hF rfl ?_ ?_)))<;>intro hF
  ·refine X0 6 rfl (qg (t:=18) hF rfl ?_ ?_)<;>intro hF
   ·refine X0 20 rfl (qdv rfl rfl (X0 4 rfl ?_))
    obtain rfl:=qa hF;replace hF:=hK1
    exact rb h hF rfl
   refine X1 5 0 h rfl ?_
   obtain ⟨y2,hy2,hF,he2,b2,_,q2,cs3,hp2,hq2,rfl,hc3⟩:=s2.ix hF
   refine zxe hp2 hq2 he2 rfl (X0 1 rfl (zc 0 (hc3.below h.below) rfl (X0 6 rfl (qg (t:=26) hF rfl ?_ ?_))))<;>intro hF
   ·refine X0 11 rfl (qdv rfl rfl (X0 4 rfl ?_))
    obtain rfl:=qa hF;replace hF:=hK1
    exact rb h hF rfl
   refine X0 6 rfl (qg (t:=29) hF rfl ?_ ?_)<;>intro hF
   ·refine X0 7 rfl (zcB h hF qW rfl fun r1 w3 h hF=>X0 6 rfl (qh rfl hF ?_ ?_))<;>intro hF
    ·refine X0 4 rfl ?_
     obtain rfl:=qa hF;replace hF:=hK1
     exact rb h hF rfl
    exact X0 6 rfl (rK ⟨_,hF,rfl,h⟩ rfl)
   exact X0 9 rfl (qej rfl rfl (X0 6 rfl (rK ⟨_,hF,rfl,h⟩ rfl)))
  refine X0 17 rfl (qg (t:=29) hF rfl ?_ ?_)<;>intro hF
  ·refine X0 7 rfl (zcB h hF qW rfl fun r2 w4 h hF=>X0 6 rfl (qh rfl hF ?_ ?_))<;>intro hF
   ·refine X0 4 rfl ?_
    obtain rfl:=qa hF;replace hF:=hK1
    exact rb h hF rfl
   exact X0 6 rfl (rK ⟨_,hF,rfl,h⟩ rfl)
  exact X0 9 rfl (qej rfl rfl (X0 6 rfl (rK ⟨_,hF,rfl,h⟩ rfl)))
 refine qq rfl ?_
 obtain rfl:=qa hF;replace hF:=hK1
 exact X0 4 rfl (rb h hF rfl)
def qgS (n:Nat) (a_w:qr) (sinks:Int):Option Bool :=
 (qaU n a_w.Ah).bind fun r1 =>
 (qal n r1 1 8).bind fun r2 =>
 bif r2 then
  (qaU n a_w.Bi).bind fun r3 =>
  bif (r3==r1) then
   (qaU n a_w.Bg).bind fun r4 =>
   bif (r4==r1) then
    (qd9 n a_w).bind fun r5 =>
    bif r5 then
     (qaY n a_w.Bi 0 1000).bind fun r6 =>
     bif r6 then
      (qaY n a_w.Bg 0 500).bind fun r7 =>
      bif r7 then
       (qaU n a_w.Be).bind fun r8 =>
       bif (r8==sinks) then
        (qaY n a_w.Be 0 (W64 (r1-1))).bind fun r9 =>
        some r9
       else
        some false
      else
       some false
     else
      some false
    else
     some false
   else
    some false
  else
   some false
 else
  some false
theorem qkY {a_w:qr} {sinks:Int} (ha1:GoT.R w (old w) a_w cs1) {r:Bool} (hF:qgS n a_w sinks=some r):RetV Tryz.prog 141 [GoT.v qr cs1,.int .i64 sinks] w r:=by
 obtain ⟨p1,k1,p2,k2,p3,k3,p4,k4,rfl,s1,s2,s3,s4⟩:=qaS ha1
 refine zV 53 Tryz.func141 rfl fun h=>zSR (qy h rfl rfl fun w1 bb1 h=>X1 6 0 h rfl (zcI h hF (qbJ ⟨_,_,rfl,(h.oldS s1)⟩) rfl fun r1 w2 h hF=>X0 5 rfl (zcB h hF qW rfl fun r2 w3 h hF=>zp1 rfl (qg (t:=11) hF rfl ?_ ?_))))<;>intro hF
 ·refine X1 5 0 h rfl (zcI h hF (qbJ ⟨_,_,rfl,(h.oldS s2)⟩) rfl fun r3 w4 h hF=>X0 6 rfl (qg (t:=18) hF rfl ?_ ?_))<;>intro hF
  ·refine X1 5 0 h rfl (zcI h hF (qbJ ⟨_,_,rfl,(h.oldS s3)⟩) rfl fun r4 w5 h hF=>X0 6 rfl (qg (t:=25) hF rfl ?_ ?_))<;>intro hF
   ·refine X1 3 0 h rfl (zcB h hF (qie (h.old ha1)) rfl fun r5 w6 h hF=>zp2 rfl (qg (t:=29) hF rfl ?_ ?_))<;>intro hF
    ·refine X1 5 0 h rfl (zcB h hF (qbm ⟨_,_,rfl,(h.oldS s2)⟩) rfl fun r6 w7 h hF=>zp2 rfl (qg (t:=34) hF rfl ?_ ?_))<;>intro hF
     ·refine X1 5 0 h rfl (zcB h hF (qbm ⟨_,_,rfl,(h.oldS s3)⟩) rfl fun r7 w8 h hF=>zp2 rfl (qg (t:=39) hF rfl ?_ ?_))<;>intro hF
      ·refine X1 5 0 h rfl (zcI h hF (qbJ ⟨_,_,rfl,(h.oldS s4)⟩) rfl fun r8 w9 h hF=>X0 6 rfl (qg (t:=46) hF rfl ?_ ?_))<;>intro hF
       ·exact X1 9 0 h rfl (zcB h hF (qbm ⟨_,_,rfl,(h.oldS s4)⟩) rfl fun r9 w10 h hF=>X0 3 rfl (rb h hF rfl))
       exact X0 8 rfl (rb h hF rfl)
      exact X0 15 rfl (rb h hF rfl)
     exact X0 20 rfl (rb h hF rfl)
    exact X0 25 rfl (rb h hF rfl)
   exact X0 29 rfl (rb h hF rfl)
  exact X0 36 rfl (rb h hF rfl)
 exact X0 43 rfl (rb h hF rfl)
def qcK (b:qp) (x2:(List Int)):Nat→Int→Option (Flow Bool Int)
 | 0,_=>none
 | n+1,i2 =>
  bif decide (i2<(b.Aq.length:Int)) then
   (idx b.Aq i2).bind fun y4 =>
   (idx x2 i2).bind fun y5 =>
   (qgS n y4 y5).bind fun r2 =>
   bif (!r2) then some (.ret false) else
   qcK b x2 n (W64 (i2+1))
  else
   some (.nxt i2)
def qbt (r1:(List Tplace)):Nat→(List Int)→Int→Option ((List Int) × Int)
 | 0,_,_=>none
 | n+1,x2,i1 =>
  bif decide (i1<(r1.length:Int)) then
   (idx r1 i1).bind fun y1 =>
   bif (!y1.drives) then
    (idx x2 y1.net).bind fun y2 =>
    (idx x2 y1.net).bind fun _ =>
    qbt r1 n (setS x2 y1.net (W64 (y2+1))) (W64 (i1+1))
   else
    qbt r1 n x2 (W64 (i1+1))
  else
   some (x2,i1)
def qgf (n:Nat) (b:qp):Option Bool :=
 (
  (qfA n (⟨b.As.Aj⟩:qn) (⟨b.Ab.Aa,b.Ab.Ac,b.Ab.Af⟩:qd)).bind fun r3 =>
  bif (!r3) then some true else
  some ((b.Aq.length:Int) != (b.Ab.Ac.length:Int))).bind fun b1 =>
 bif b1 then some false else
 (mkS (b.Aq.length:Int) (0:Int)).bind fun x1 =>
 (qds n (⟨b.Ab.Aa,b.Ab.Ac,b.Ab.Af⟩:qd)).bind fun r1 =>
 (qbt r1 n x1 0).bind fun o=>match o with
 | (x2,_) =>
  (qcK b x2 n 0).bind fun o=>match o with
  | .ret r=>some r
  | .nxt _ =>
   some true
theorem qj0 {b:qp} (ha1:GoT.R w (old w) b cs1) {r:Bool} (hF:qgf n b=some r):RetV Tryz.prog 59 [GoT.v qp cs1] w r:=by
 obtain ⟨p1,k1,p2,k2,p3,k3,p4,k4,p5,k5,rfl,s1,s2,s3,s4,s5⟩:=qay ha1
 refine zV 63 Tryz.func59 rfl fun h=>zSR (qy h rfl rfl fun w1 bb1 h=>X0 4 rfl ?_)
 obtain ⟨KF1,hKF1,o3,hF,hK3⟩:=bindE hF
 refine qcw (fun e w'=>∃ (b1:Bool),KF1 b1=some r∧e=[(1,.pointer (some ⟨bb1,0,none⟩)),(23,.bool b1)]∧SH w w' [Ch.box bb1 (qbw b p1 p2 p3 p4 p5 k1 k2 k3 k4 k5) 48]) ?_ ?_
 ·refine X2 5 0 0 h rfl (zcB h hF (qjv (qdC _ (h.oldS s1)) (qbs _ (h.oldS s2) (h.oldS s3) (h.oldS s4))) rfl fun r3 w12 h hF=>zp2 rfl (qg (t:=14) hF rfl ?_ ?_))<;>intro hF
  ·refine X0 10 rfl ?_
   obtain rfl:=qa hF
   exact rG ⟨_,hK3,rfl,h⟩ rfl
  refine X2 18 0 0 h rfl ?_
  obtain rfl:=qa hF
  exact rG ⟨_,hK3,rfl,h⟩ rfl
 rintro e3 w13 ⟨b1,hF,rfl,h⟩
 subst hKF1
 refine qh rfl hF ?_ ?_<;>intro hF
 ·exact X0 4 rfl (rb h hF rfl)
 refine X1 6 0 h rfl ?_
 obtain ⟨x1,hx1,hF⟩:=qf hF
 obtain ⟨g1,g2,hx1⟩:=qb4 hx1
 refine qc6 qe Int h rfl rfl rfl rfl rfl rfl rfl rfl rfl g1 g2 hx1 rfl fun w2 S1 p6 h=>X1 7 1 h rfl (zcL h hF (qhD (qbs _ (h.oldS s2) (h.oldS s3) (h.oldS s4))) rfl fun r1 w3 S2 p7 k6 h hF=>X0 3 rfl ?_)
 obtain ⟨o1,hF,hK1⟩:=qf hF
 refine qm (rL (fun m e w'=>∃ (x2:(List Int)) (i1:Int),qbt r1 m x2 i1=some o1∧e=[(1,.pointer (some ⟨bb1,0,none⟩)),(3,.slice p6 x1.length x1.length),(30,.slice p7 r1.length k6),(31,.int .i64 (r1.length:Int)),(32,.int .i64 i1)]∧SH w w' [Ch.own S2 (r1:List Tplace) [.slice p7 r1.length k6],Ch.own S1 (x2:List Int) [.slice p6 x1.length x1.length],Ch.box bb1 (qbw b p1 p2 p3 p4 p5 k1 k2 k3 k4 k5) 48]) n ⟨_,_,hF,rfl,h⟩ rfl ?_)
 rintro m1 e1 w4 ⟨x2,i1,hF,rfl,h⟩
 rcases m1 with _|m1
 ·cases hF
 refine X0 5 rfl (qh rfl hF ?_ ?_)<;>intro hF
 ·refine zKSBSR ?_
  obtain ⟨y1,hy1,hF,he1,b2,_,q1,cs2,hp1,hq1,hr2,hc3⟩:=(h.sl 0 rfl).1.ix hF
  obtain rfl:=qmC hr2
  refine zx hp1 hq1 ⟨he1.1,qK he1.2.1 (h.sl 0 rfl).2⟩ rfl (zc 0 hc3 rfl (qM qe h rfl rfl rfl fun w5 bb2 h=>zs 0 h rfl fun w6 h=>X1 7 0 h rfl (qh rfl hF ?_ ?_)))<;>intro hF
  ·refine X1 4 0 h rfl ?_
   obtain ⟨y2,hy2,hF,he2,b3,_,q2,cs3,hp2,hq2,rfl,hc5⟩:=(h.sl 2 rfl).1.ix hF
   refine zx hp2 hq2 ⟨he2.1,qK he2.2.1 (h.sl 2 rfl).2⟩ rfl (zc 0 hc5 rfl (zp1 rfl ?_))
   obtain ⟨y3,hy3,hF,he3,b4,_,q3,cs4,hp3,hq3,rfl,hc6⟩:=(h.sl 2 rfl).1.ix hF
   refine zx hp3 hq3 ⟨he3.1,qK he3.2.1 (h.sl 2 rfl).2⟩ rfl (qaN qe 2 0 (W64 (y2+1)) h rfl hy3 hp3 hq3 rfl hc6 rfl rfl rfl rfl rfl rfl rfl fun w7 h=>X0 6 rfl ?_)
   replace h:=h.pick [1,2,3] rfl
   exact rK ⟨_,_,hF,rfl,h⟩ rfl
  refine X0 6 rfl ?_
  replace h:=h.pick [1,2,3] rfl
  exact rK ⟨_,_,hF,rfl,h⟩ rfl
 refine qq rfl ?_
 obtain rfl:=qa hF;replace hF:=hK1
 refine X1 8 2 h rfl ?_
 obtain ⟨o2,hF,hK2⟩:=qf hF
 refine qm ?_
 replace h:=h.pick [1] rfl
 refine rL (fun m e w'=>∃ (i2:Int),qcK b x2 m i2=some o2∧e=[(3,.slice p6 x1.length x1.length),(48,.slice p5 b.Aq.length k5),(49,.int .i64 (b.Aq.length:Int)),(50,.int .i64 i2)]∧SH w w' [Ch.own S1 (x2:List Int) [.slice p6 x1.length x1.length]]) n ⟨_,hF,rfl,h⟩ rfl ?_
 rintro m2 e2 w8 ⟨i2,hF,rfl,h⟩
 rcases m2 with _|m2
 ·cases hF
 refine X0 5 rfl (qh rfl hF ?_ ?_)<;>intro hF
 ·refine X0 6 rfl ?_
  obtain ⟨y4,hy4,hF,he4,b5,_,q4,cs5,hp4,hq4,hr5,hc8⟩:=s5.ix hF
  obtain ⟨p8,k7,p9,k8,p10,k9,p11,k10,rfl,s6,s7,s8,s9⟩:=qaS hr5
  refine zxe hp4 hq4 he4 rfl (zc 0 (hc8.below h.below) rfl (qM qe h rfl rfl rfl fun w9 bb3 h=>zp1 rfl (zs 0 h rfl fun w10 h=>zNS (rD (Y1 1 0 h rfl ?_)))))
  refine zd2 rfl ?_
  obtain ⟨y5,hy5,hF,he5,b6,_,q5,cs6,hp5,hq5,rfl,hc9⟩:=(h.sl 1 rfl).1.ix hF
  refine zdx hp5 hq5 ⟨he5.1,qK he5.2.1 (h.sl 1 rfl).2⟩ rfl (zdc 0 hc9 rfl ?_)
  obtain ⟨r2,hr7,hF⟩:=qf hF
  refine qbz r2 (vsB _) (cB 141 rfl) (fun _ hb=>qkY (qgn y4 ((h.ext hb).oldS s6) ((h.ext hb).oldS s7) ((h.ext hb).oldS s8) ((h.ext hb).oldS s9)) hr7) rfl rfl rfl rfl (zd1 rfl (dN h fun w11 h=>qh rfl hF ?_ ?_))<;>intro hF
  ·refine X0 4 rfl ?_
   obtain rfl:=qa hF;replace hF:=hK2
   exact rb h hF rfl
  refine X0 6 rfl ?_
  replace h:=h.pick [1] rfl
  exact rK ⟨_,hF,rfl,h⟩ rfl
 refine qq rfl ?_
 obtain rfl:=qa hF;replace hF:=hK2
 exact X0 4 rfl (rb h hF rfl)
end Go.Fw


namespace Go.Fw
open Go
def qZ (a:(List Int)):Nat:=a.length
theorem qcb {a:(List Int)} (h:(rngL rngI) a) (w:qZ a≤1048576):(okL okI) a :=
 ⟨by simp only [qZ] at w;omega,fun x hx=>h.2 x hx⟩
def qeP (x:ql):Prop:=(rngL rngI) x.Ay∧(rngL rngI) x.Av∧(rngL rngI) x.Ap
def qb9 (x:ql):Nat:=qZ x.Ay+qZ x.Av+qZ x.Ap
structure qe5 (x:ql):Prop where
 Ay:(okL okI) x.Ay
 Av:(okL okI) x.Av
 Ap:(okL okI) x.Ap
theorem qnm {x:ql} (h:qeP x) (w:qb9 x≤1048576):qe5 x:=⟨qcb (h.1) (by simp only [qb9] at w;omega),qcb (h.2.1) (by simp only [qb9] at w;omega),qcb (h.2.2) (by simp only [qb9] at w;omega)⟩
def qbx (a:(List ql)):Nat:=a.length+(a.map fun x=>qb9 x).sum
theorem qjJ {a:(List ql)} (h:(rngL qeP) a) (w:qbx a≤1048576):(okL qe5) a :=
 ⟨by simp only [qbx] at w;omega,fun x hx=>qnm (h.2 x hx) (by have:=qbb (wt:=fun x:ql=>qb9 x) hx;simp only [qbx] at w;omega)⟩
def qhq (x:qz):Prop:=rngI x.Ar∧rngI x.Az∧rngI x.To∧rngI x.Bc∧(rngL qeP) x.At∧(rngL qeP) x.Bb
def qfc (x:qz):Nat:=qbx x.At+qbx x.Bb
structure qiw (x:qz):Prop where
 Ar:okI x.Ar
 Az:okI x.Az
 To:okI x.To
 Bc:okI x.Bc
 At:(okL qe5) x.At
 Bb:(okL qe5) x.Bb
theorem qoM {x:qz} (h:qhq x) (w:qfc x≤1048576):qiw x:=⟨h.1,h.2.1,h.2.2.1,h.2.2.2.1,qjJ (h.2.2.2.2.1) (by simp only [qfc] at w;omega),qjJ (h.2.2.2.2.2) (by simp only [qfc] at w;omega)⟩
theorem qcm {a:(List Int)} (h:qZ a≤1048576):Ev (fun n=>qac n a a) true:=by
 have hl:a.length≤1048576:=by simp only [qZ] at h;omega
 unfold qac
 exact Ev.ff (by simp) (Ev.bind (b:=.nxt (a.length:Int)) (qfs (eqf:=fun _ x y=>some (!(x != y))) (fun x _=>Ev.now (by simp))
  (fun n=>by simp only [qdg,qi (je _),cond_false])
  (fun n j x hx=>by
   have hj:=(List.getElem?_eq_some_iff.1 hx).1
   simp only [qdg,qj hj,cond_true,qA hx,jd,Bool.not_not,wS j])) .done)
theorem qol {a:ql} (h:qb9 a≤1048576):Ev (fun n=>qeU n a a) true:=by
 unfold qeU
 simp only [qb9] at h
 exact Ev.bind (qcm (a:=a.Ay) (by omega)) (Ev.ff rfl (Ev.bind (qcm (a:=a.Av) (by omega)) (Ev.ff rfl (Ev.bind (qcm (a:=a.Ap) (by omega)) (Ev.ff rfl (.done))))))
theorem qlw {a:(List ql)} (h:qbx a≤1048576):Ev (fun n=>qey n a a) true:=by
 have hl:a.length≤1048576:=by simp only [qbx] at h;omega
 unfold qey
 exact Ev.ff (by simp) (Ev.bind (b:=.nxt (a.length:Int)) (qfs (eqf:=qeU) (fun x hx=>qol (by have:=qbb (wt:=fun x:ql=>qb9 x) hx;simp only [qbx] at h;omega))
  (fun n=>by simp only [qc9,qi (je _),cond_false])
  (fun n j x hx=>by
   have hj:=(List.getElem?_eq_some_iff.1 hx).1
   simp only [qc9,qj hj,cond_true,qA hx,jd,wS j])) .done)
theorem qp1 {a:qz} (h:qfc a≤1048576):Ev (fun n=>qgy n a a) true:=by
 unfold qgy
 simp only [qfc] at h
 exact Ev.ff qav (Ev.ff qav (Ev.ff qav (Ev.ff qav (Ev.bind (qlw (a:=a.At) (by omega)) (Ev.ff rfl (Ev.bind (qlw (a:=a.Bb) (by omega)) (Ev.ff rfl (.done))))))))
def qen (a:(List qz)):Nat:=a.length+(a.map fun x=>qfc x).sum
theorem qob {a:(List qz)} (h:(rngL qhq) a) (w:qen a≤1048576):(okL qiw) a :=
 ⟨by simp only [qen] at w;omega,fun x hx=>qoM (h.2 x hx) (by have:=qbb (wt:=fun x:qz=>qfc x) hx;simp only [qen] at w;omega)⟩
theorem qpa {a:(List qz)} (h:qen a≤1048576):Ev (fun n=>qgR n a a) true:=by
 have hl:a.length≤1048576:=by simp only [qen] at h;omega
 unfold qgR
 exact Ev.ff (by simp) (Ev.bind (b:=.nxt (a.length:Int)) (qfs (eqf:=qgy) (fun x hx=>qp1 (by have:=qbb (wt:=fun x:qz=>qfc x) hx;simp only [qen] at h;omega))
  (fun n=>by simp only [qd4,qi (je _),cond_false])
  (fun n j x hx=>by
   have hj:=(List.getElem?_eq_some_iff.1 hx).1
   simp only [qd4,qj hj,cond_true,qA hx,jd,wS j])) .done)
def qhm (x:qF):Prop:=rngS x.Am∧rngI x.Bh∧rngI x.Bg∧rngB x.Ba
def qgC (x:qF):Nat:=x.Am.size
structure qh2 (x:qF):Prop where
 Am:okS x.Am
 Bh:okI x.Bh
 Bg:okI x.Bg
 Ba:okT x.Ba
theorem qoq {x:qF} (h:qhm x) (w:qgC x≤1048576):qh2 x:=⟨(by unfold okS;simp only [qgC] at w;omega),h.2.1,h.2.2.1,trivial⟩
def qem (a:(List qF)):Nat:=a.length+(a.map fun x=>qgC x).sum
theorem qn8 {a:(List qF)} (h:(rngL qhm) a) (w:qem a≤1048576):(okL qh2) a :=
 ⟨by simp only [qem] at w;omega,fun x hx=>qoq (h.2 x hx) (by have:=qbb (wt:=fun x:qF=>qgC x) hx;simp only [qem] at w;omega)⟩
def qgq (x:qk):Prop:=rngS x.Am∧rngI x.Ar∧(rngL qhm) x.Ai∧(rngL qhq) x.Ak∧(rngL rngI) x.Au∧rngI x.Bl∧rngI x.Bf
def qdc (x:qk):Nat:=x.Am.size+qem x.Ai+qen x.Ak+qZ x.Au
structure qh5 (x:qk):Prop where
 Am:okS x.Am
 Ar:okI x.Ar
 Ai:(okL qh2) x.Ai
 Ak:(okL qiw) x.Ak
 Au:(okL okI) x.Au
 Bl:okI x.Bl
 Bf:okI x.Bf
theorem qn9 {x:qk} (h:qgq x) (w:qdc x≤1048576):qh5 x:=⟨(by unfold okS;simp only [qdc] at w;omega),h.2.1,qn8 (h.2.2.1) (by simp only [qdc] at w;omega),qob (h.2.2.2.1) (by simp only [qdc] at w;omega),qcb (h.2.2.2.2.1) (by simp only [qdc] at w;omega),h.2.2.2.2.2.1,h.2.2.2.2.2.2⟩
def qdA (a:(List qk)):Nat:=a.length+(a.map fun x=>qdc x).sum
theorem qmW {a:(List qk)} (h:(rngL qgq) a) (w:qdA a≤1048576):(okL qh5) a :=
 ⟨by simp only [qdA] at w;omega,fun x hx=>qn9 (h.2 x hx) (by have:=qbb (wt:=fun x:qk=>qdc x) hx;simp only [qdA] at w;omega)⟩
def qgT (x:qn):Prop:=(rngL qgq) x.Aj
def qcs (x:qn):Nat:=qdA x.Aj
structure qeL (x:qn):Prop where
 Aj:(okL qh5) x.Aj
theorem qlV {x:qn} (h:qgT x) (w:qcs x≤1048576):qeL x:=⟨qmW (h) (by simp only [qcs] at w;omega)⟩
def qdD (x:qc):Prop:=rngS x.Am∧rngI x.Bj∧(rngL rngI) x.Ac
def qaF (x:qc):Nat:=x.Am.size+qZ x.Ac
structure qhR (x:qc):Prop where
 Am:okS x.Am
 Bj:okI x.Bj
 Ac:(okL okI) x.Ac
theorem qk7 {x:qc} (h:qdD x) (w:qaF x≤1048576):qhR x:=⟨(by unfold okS;simp only [qaF] at w;omega),h.2.1,qcb (h.2.2) (by simp only [qaF] at w;omega)⟩
def qaK (a:(List qc)):Nat:=a.length+(a.map fun x=>qaF x).sum
theorem qkw {a:(List qc)} (h:(rngL qdD) a) (w:qaK a≤1048576):(okL qhR) a :=
 ⟨by simp only [qaK] at w;omega,fun x hx=>qk7 (h.2 x hx) (by have:=qbb (wt:=fun x:qc=>qaF x) hx;simp only [qaK] at w;omega)⟩
def qct (a:(List ByteArray)):Nat:=a.length+(a.map fun x=>x.size).sum
theorem qlI {a:(List ByteArray)} (_:(rngL rngS) a) (w:qct a≤1048576):(okL okS) a :=
 ⟨by simp only [qct] at w;omega,fun x hx=>(by unfold okS;have:=qbb (wt:=fun x:ByteArray=>x.size) hx;simp only [qct] at w;omega)⟩
def qgB (x:qu):Prop:=rngS x.Am∧rngI x.Bh∧rngI x.Bk
def qeI (x:qu):Nat:=x.Am.size
structure qlK (x:qu):Prop where
 Am:okS x.Am
 Bh:okI x.Bh
 Bk:okI x.Bk
theorem qnO {x:qu} (h:qgB x) (w:qeI x≤1048576):qlK x:=⟨(by unfold okS;simp only [qeI] at w;omega),h.2.1,h.2.2⟩
def qdB (a:(List qu)):Nat:=a.length+(a.map fun x=>qeI x).sum
theorem qm0 {a:(List qu)} (h:(rngL qgB) a) (w:qdB a≤1048576):(okL qlK) a :=
 ⟨by simp only [qdB] at w;omega,fun x hx=>qnO (h.2 x hx) (by have:=qbb (wt:=fun x:qu=>qeI x) hx;simp only [qdB] at w;omega)⟩
def qhr (x:qd):Prop:=(rngL qdD) x.Aa∧(rngL rngS) x.Ac∧(rngL qgB) x.Af
def qcA (x:qd):Nat:=qaK x.Aa+qct x.Ac+qdB x.Af
structure qgm (x:qd):Prop where
 Aa:(okL qhR) x.Aa
 Ac:(okL okS) x.Ac
 Af:(okL qlK) x.Af
theorem qmy {x:qd} (h:qhr x) (w:qcA x≤1048576):qgm x:=⟨qkw (h.1) (by simp only [qcA] at w;omega),qlI (h.2.1) (by simp only [qcA] at w;omega),qm0 (h.2.2) (by simp only [qcA] at w;omega)⟩
def qgA (x:qr):Prop:=(rngL rngI) x.Ah∧(rngL rngI) x.Bi∧(rngL rngI) x.Bg∧(rngL rngI) x.Be
def qdo (x:qr):Nat:=qZ x.Ah+qZ x.Bi+qZ x.Bg+qZ x.Be
structure qiR (x:qr):Prop where
 Ah:(okL okI) x.Ah
 Bi:(okL okI) x.Bi
 Bg:(okL okI) x.Bg
 Be:(okL okI) x.Be
theorem qnW {x:qr} (h:qgA x) (w:qdo x≤1048576):qiR x:=⟨qcb (h.1) (by simp only [qdo] at w;omega),qcb (h.2.1) (by simp only [qdo] at w;omega),qcb (h.2.2.1) (by simp only [qdo] at w;omega),qcb (h.2.2.2) (by simp only [qdo] at w;omega)⟩
def qdx (a:(List qr)):Nat:=a.length+(a.map fun x=>qdo x).sum
theorem qm1 {a:(List qr)} (h:(rngL qgA) a) (w:qdx a≤1048576):(okL qiR) a :=
 ⟨by simp only [qdx] at w;omega,fun x hx=>qnW (h.2 x hx) (by have:=qbb (wt:=fun x:qr=>qdo x) hx;simp only [qdx] at w;omega)⟩
def qh7 (x:qp):Prop:=qgT x.As∧qhr x.Ab∧(rngL qgA) x.Aq
def qdy (x:qp):Nat:=qcs x.As+qcA x.Ab+qdx x.Aq
structure qi9 (x:qp):Prop where
 As:qeL x.As
 Ab:qgm x.Ab
 Aq:(okL qiR) x.Aq
theorem qnb {x:qp} (h:qh7 x) (w:qdy x≤1048576):qi9 x:=⟨qlV (h.1) (by simp only [qdy] at w;omega),qmy (h.2.1) (by simp only [qdy] at w;omega),qm1 (h.2.2) (by simp only [qdy] at w;omega)⟩
theorem qqj {a:qF} (_:qgC a≤1048576):Ev (fun n=>qgw n a a) true:=by
 unfold qgw
 exact Ev.ff qgh (Ev.ff qav (Ev.ff qav (Ev.ff qlJ (.done))))
theorem qps {a:(List qF)} (h:qem a≤1048576):Ev (fun n=>qgP n a a) true:=by
 have hl:a.length≤1048576:=by simp only [qem] at h;omega
 unfold qgP
 exact Ev.ff (by simp) (Ev.bind (b:=.nxt (a.length:Int)) (qfs (eqf:=qgw) (fun x hx=>qqj (by have:=qbb (wt:=fun x:qF=>qgC x) hx;simp only [qem] at h;omega))
  (fun n=>by simp only [qd3,qi (je _),cond_false])
  (fun n j x hx=>by
   have hj:=(List.getElem?_eq_some_iff.1 hx).1
   simp only [qd3,qj hj,cond_true,qA hx,jd,wS j])) .done)
theorem qpN {a:qk} (h:qdc a≤1048576):Ev (fun n=>qfQ n a a) true:=by
 unfold qfQ
 simp only [qdc] at h
 exact Ev.ff qgh (Ev.ff qav (Ev.bind (qps (a:=a.Ai) (by omega)) (Ev.ff rfl (Ev.bind (qpa (a:=a.Ak) (by omega)) (Ev.ff rfl (Ev.bind (qcm (a:=a.Au) (by omega)) (Ev.ff rfl (Ev.ff qav (Ev.ff qav (.done))))))))))
theorem qoz {a:(List qk)} (h:qdA a≤1048576):Ev (fun n=>qf9 n a a) true:=by
 have hl:a.length≤1048576:=by simp only [qdA] at h;omega
 unfold qf9
 exact Ev.ff (by simp) (Ev.bind (b:=.nxt (a.length:Int)) (qfs (eqf:=qfQ) (fun x hx=>qpN (by have:=qbb (wt:=fun x:qk=>qdc x) hx;simp only [qdA] at h;omega))
  (fun n=>by simp only [qdG,qi (je _),cond_false])
  (fun n j x hx=>by
   have hj:=(List.getElem?_eq_some_iff.1 hx).1
   simp only [qdG,qj hj,cond_true,qA hx,jd,wS j])) .done)
theorem qm9 {a:qn} (h:qcs a≤1048576):Ev (fun n=>qeT n a a) true:=by
 unfold qeT
 simp only [qcs] at h
 exact Ev.bind (qoz (a:=a.Aj) (by omega)) (Ev.ff rfl (.done))
theorem qmE {a:qc} (h:qaF a≤1048576):Ev (fun n=>qdJ n a a) true:=by
 unfold qdJ
 simp only [qaF] at h
 exact Ev.ff qgh (Ev.ff qav (Ev.bind (qcm (a:=a.Ac) (by omega)) (Ev.ff rfl (.done))))
theorem qlT {a:(List qc)} (h:qaK a≤1048576):Ev (fun n=>qee n a a) true:=by
 have hl:a.length≤1048576:=by simp only [qaK] at h;omega
 unfold qee
 exact Ev.ff (by simp) (Ev.bind (b:=.nxt (a.length:Int)) (qfs (eqf:=qdJ) (fun x hx=>qmE (by have:=qbb (wt:=fun x:qc=>qaF x) hx;simp only [qaK] at h;omega))
  (fun n=>by simp only [qb3,qi (je _),cond_false])
  (fun n j x hx=>by
   have hj:=(List.getElem?_eq_some_iff.1 hx).1
   simp only [qb3,qj hj,cond_true,qA hx,jd,wS j])) .done)
theorem qm3 {a:(List ByteArray)} (h:qct a≤1048576):Ev (fun n=>qfa n a a) true:=by
 have hl:a.length≤1048576:=by simp only [qct] at h;omega
 unfold qfa
 exact Ev.ff (by simp) (Ev.bind (b:=.nxt (a.length:Int)) (qfs (eqf:=fun _ x y=>some (!(x.toList != y.toList))) (fun x _=>Ev.now (by simp))
  (fun n=>by simp only [qcP,qi (je _),cond_false])
  (fun n j x hx=>by
   have hj:=(List.getElem?_eq_some_iff.1 hx).1
   simp only [qcP,qj hj,cond_true,qA hx,jd,Bool.not_not,wS j])) .done)
theorem qpp {a:qu} (_:qeI a≤1048576):Ev (fun n=>qfE n a a) true:=by
 unfold qfE
 exact Ev.ff qgh (Ev.ff qav (Ev.ff qav (.done)))
theorem qoo {a:(List qu)} (h:qdB a≤1048576):Ev (fun n=>qgc n a a) true:=by
 have hl:a.length≤1048576:=by simp only [qdB] at h;omega
 unfold qgc
 exact Ev.ff (by simp) (Ev.bind (b:=.nxt (a.length:Int)) (qfs (eqf:=qfE) (fun x hx=>qpp (by have:=qbb (wt:=fun x:qu=>qeI x) hx;simp only [qdB] at h;omega))
  (fun n=>by simp only [qdL,qi (je _),cond_false])
  (fun n j x hx=>by
   have hj:=(List.getElem?_eq_some_iff.1 hx).1
   simp only [qdL,qj hj,cond_true,qA hx,jd,wS j])) .done)
theorem qnC {a:qd} (h:qcA a≤1048576):Ev (fun n=>qfz n a a) true:=by
 unfold qfz
 simp only [qcA] at h
 exact Ev.bind (qlT (a:=a.Aa) (by omega)) (Ev.ff rfl (Ev.bind (qm3 (a:=a.Ac) (by omega)) (Ev.ff rfl (Ev.bind (qoo (a:=a.Af) (by omega)) (Ev.ff rfl (.done))))))
theorem qpv {a:qr} (h:qdo a≤1048576):Ev (fun n=>qfM n a a) true:=by
 unfold qfM
 simp only [qdo] at h
 exact Ev.bind (qcm (a:=a.Ah) (by omega)) (Ev.ff rfl (Ev.bind (qcm (a:=a.Bi) (by omega)) (Ev.ff rfl (Ev.bind (qcm (a:=a.Bg) (by omega)) (Ev.ff rfl (Ev.bind (qcm (a:=a.Be) (by omega)) (Ev.ff rfl (.done))))))))
theorem qoU {a:(List qr)} (h:qdx a≤1048576):Ev (fun n=>qf2 n a a) true:=by
 have hl:a.length≤1048576:=by simp only [qdx] at h;omega
 unfold qf2
 exact Ev.ff (by simp) (Ev.bind (b:=.nxt (a.length:Int)) (qfs (eqf:=qfM) (fun x hx=>qpv (by have:=qbb (wt:=fun x:qr=>qdo x) hx;simp only [qdx] at h;omega))
  (fun n=>by simp only [qdF,qi (je _),cond_false])
  (fun n j x hx=>by
   have hj:=(List.getElem?_eq_some_iff.1 hx).1
   simp only [qdF,qj hj,cond_true,qA hx,jd,wS j])) .done)
theorem qou {a:qp} (h:qdy a≤1048576):Ev (fun n=>qgj n a a) true:=by
 unfold qgj
 simp only [qdy] at h
 exact Ev.bind (qm9 (a:=a.As) (by omega)) (Ev.ff rfl (Ev.bind (qnC (a:=a.Ab) (by omega)) (Ev.ff rfl (Ev.bind (qoU (a:=a.Aq) (by omega)) (Ev.ff rfl (.done))))))
theorem qeb {a:(List Int)} {left:Int} (h:(rngL rngI) a) (h0:0≤left) (h1:left≤1048576):Sz (fun n=>qaZ n a left) (fun r=>r=left-(qZ a:Int)) :=
 Sz.less h0 h1 (by omega) (by have:=h.1;omega) (fun _=>rfl)
theorem qoP {a:ql} {left:Int} (h:qeP a) (h0:0≤left) (h1:left≤1048576):Sz (fun n=>qe3 n a left) (fun r=>r=left-(qb9 a:Int)):=by
 unfold qe3
 obtain ⟨h_0,h_1,h_2⟩:=h
 exact Sz.step (qeb (a:=a.Ay) h_0 (by omega) (by omega)) fun r0 p0 q0=>Sz.step (qeb (a:=a.Av) h_1 (by omega) (by omega)) fun r1 p1 q1=>Sz.step (qeb (a:=a.Ap) h_2 (by omega) (by omega)) fun r2 p2 q2=>Sz.done p2 (by simp only [qb9];omega)
theorem qlr {a:(List ql)} {left:Int} (h:(rngL qeP) a) (h0:0≤left) (h1:left≤1048576):Sz (fun n=>qfq n a left) (fun r=>r=left-(qbx a:Int)) :=
 Sz.list (Lf:=qcn a) (wt:=fun x:ql=>qb9 x) (el:=qe3) h0 h1 h.1 (fun x hx left p q=>qoP (h.2 x hx) p q)
  (fun acc n=>by simp only [qcn,qi (je _),cond_false])
  (fun acc n j x hx=>by
   have hj:=(List.getElem?_eq_some_iff.1 hx).1
   have hl:=h.1
   simp only [qcn,qj hj,cond_true,qA hx,jd,wS j])
  (fun _=>rfl)
theorem qqe {a:qz} {left:Int} (h:qhq a) (h0:0≤left) (h1:left≤1048576):Sz (fun n=>qgJ n a left) (fun r=>r=left-(qfc a:Int)):=by
 unfold qgJ
 obtain ⟨h_0,h_1,h_2,h_3,h_4,h_5⟩:=h
 exact Sz.step (qlr (a:=a.At) h_4 (by omega) (by omega)) fun r0 p0 q0=>Sz.step (qlr (a:=a.Bb) h_5 (by omega) (by omega)) fun r1 p1 q1=>Sz.done p1 (by simp only [qfc];omega)
theorem qpx {a:(List qz)} {left:Int} (h:(rngL qhq) a) (h0:0≤left) (h1:left≤1048576):Sz (fun n=>qhQ n a left) (fun r=>r=left-(qen a:Int)) :=
 Sz.list (Lf:=qdl a) (wt:=fun x:qz=>qfc x) (el:=qgJ) h0 h1 h.1 (fun x hx left p q=>qqe (h.2 x hx) p q)
  (fun acc n=>by simp only [qdl,qi (je _),cond_false])
  (fun acc n j x hx=>by
   have hj:=(List.getElem?_eq_some_iff.1 hx).1
   have hl:=h.1
   simp only [qdl,qj hj,cond_true,qA hx,jd,wS j])
  (fun _=>rfl)
theorem qp4 {a:qF} {left:Int} (h:qhm a) (h0:0≤left) (h1:left≤1048576):Sz (fun n=>qgv n a left) (fun r=>r=left-(qgC a:Int)):=by
 unfold qgv
 obtain ⟨h_0,h_1,h_2,h_3⟩:=h
 exact Sz.strStep h_0 (by omega) (by omega) fun p0 q0=>Sz.done p0 (by simp only [qgC];omega)
theorem qpr {a:(List qF)} {left:Int} (h:(rngL qhm) a) (h0:0≤left) (h1:left≤1048576):Sz (fun n=>qhO n a left) (fun r=>r=left-(qem a:Int)) :=
 Sz.list (Lf:=qdd a) (wt:=fun x:qF=>qgC x) (el:=qgv) h0 h1 h.1 (fun x hx left p q=>qp4 (h.2 x hx) p q)
  (fun acc n=>by simp only [qdd,qi (je _),cond_false])
  (fun acc n j x hx=>by
   have hj:=(List.getElem?_eq_some_iff.1 hx).1
   have hl:=h.1
   simp only [qdd,qj hj,cond_true,qA hx,jd,wS j])
  (fun _=>rfl)
theorem qpA {a:qk} {left:Int} (h:qgq a) (h0:0≤left) (h1:left≤1048576):Sz (fun n=>qfS n a left) (fun r=>r=left-(qdc a:Int)):=by
 unfold qfS
 obtain ⟨h_0,h_1,h_2,h_3,h_4,h_5,h_6⟩:=h
 exact Sz.strStep h_0 (by omega) (by omega) fun p0 q0=>Sz.step (qpr (a:=a.Ai) h_2 (by omega) (by omega)) fun r1 p1 q1=>Sz.step (qpx (a:=a.Ak) h_3 (by omega) (by omega)) fun r2 p2 q2=>Sz.step (qeb (a:=a.Au) h_4 (by omega) (by omega)) fun r3 p3 q3=>Sz.done p3 (by simp only [qdc];omega)
theorem qo5 {a:(List qk)} {left:Int} (h:(rngL qgq) a) (h0:0≤left) (h1:left≤1048576):Sz (fun n=>qht n a left) (fun r=>r=left-(qdA a:Int)) :=
 Sz.list (Lf:=qcG a) (wt:=fun x:qk=>qdc x) (el:=qfS) h0 h1 h.1 (fun x hx left p q=>qpA (h.2 x hx) p q)
  (fun acc n=>by simp only [qcG,qi (je _),cond_false])
  (fun acc n j x hx=>by
   have hj:=(List.getElem?_eq_some_iff.1 hx).1
   have hl:=h.1
   simp only [qcG,qj hj,cond_true,qA hx,jd,wS j])
  (fun _=>rfl)
theorem qnd {a:qn} {left:Int} (h:qgT a) (h0:0≤left) (h1:left≤1048576):Sz (fun n=>qe4 n a left) (fun r=>r=left-(qcs a:Int)):=by
 unfold qe4
 have h_0:=h
 exact Sz.step (qo5 (a:=a.Aj) h_0 (by omega) (by omega)) fun r0 p0 q0=>Sz.done p0 (by simp only [qcs];omega)
theorem qmF {a:qc} {left:Int} (h:qdD a) (h0:0≤left) (h1:left≤1048576):Sz (fun n=>qdE n a left) (fun r=>r=left-(qaF a:Int)):=by
 unfold qdE
 obtain ⟨h_0,h_1,h_2⟩:=h
 exact Sz.strStep h_0 (by omega) (by omega) fun p0 q0=>Sz.step (qeb (a:=a.Ac) h_2 (by omega) (by omega)) fun r1 p1 q1=>Sz.done p1 (by simp only [qaF];omega)
theorem qlL {a:(List qc)} {left:Int} (h:(rngL qdD) a) (h0:0≤left) (h1:left≤1048576):Sz (fun n=>qff n a left) (fun r=>r=left-(qaK a:Int)) :=
 Sz.list (Lf:=qbq a) (wt:=fun x:qc=>qaF x) (el:=qdE) h0 h1 h.1 (fun x hx left p q=>qmF (h.2 x hx) p q)
  (fun acc n=>by simp only [qbq,qi (je _),cond_false])
  (fun acc n j x hx=>by
   have hj:=(List.getElem?_eq_some_iff.1 hx).1
   have hl:=h.1
   simp only [qbq,qj hj,cond_true,qA hx,jd,wS j])
  (fun _=>rfl)
theorem qmO {a:(List ByteArray)} {left:Int} (h:(rngL rngS) a) (h0:0≤left) (h1:left≤1048576):Sz (fun n=>qgI n a left) (fun r=>r=left-(qct a:Int)) :=
 Sz.list (Lf:=qbS a) (wt:=fun x:ByteArray=>x.size) (el:=fun _ (x:ByteArray) acc=>some (W64 (acc-(x.size:Int)))) h0 h1 h.1 (fun x hx left p q=>Sz.str (h.2 x hx) p q)
  (fun acc n=>by simp only [qbS,qi (je _),cond_false])
  (fun acc n j x hx=>by
   have hj:=(List.getElem?_eq_some_iff.1 hx).1
   have hl:=h.1
   simp only [qbS,qj hj,cond_true,qA hx,jd,wS j])
  (fun _=>rfl)
theorem qpF {a:qu} {left:Int} (h:qgB a) (h0:0≤left) (h1:left≤1048576):Sz (fun n=>qfP n a left) (fun r=>r=left-(qeI a:Int)):=by
 unfold qfP
 obtain ⟨h_0,h_1,h_2⟩:=h
 exact Sz.strStep h_0 (by omega) (by omega) fun p0 q0=>Sz.done p0 (by simp only [qeI];omega)
theorem qoQ {a:(List qu)} {left:Int} (h:(rngL qgB) a) (h0:0≤left) (h1:left≤1048576):Sz (fun n=>qhu n a left) (fun r=>r=left-(qdB a:Int)) :=
 Sz.list (Lf:=qcH a) (wt:=fun x:qu=>qeI x) (el:=qfP) h0 h1 h.1 (fun x hx left p q=>qpF (h.2 x hx) p q)
  (fun acc n=>by simp only [qcH,qi (je _),cond_false])
  (fun acc n j x hx=>by
   have hj:=(List.getElem?_eq_some_iff.1 hx).1
   have hl:=h.1
   simp only [qcH,qj hj,cond_true,qA hx,jd,wS j])
  (fun _=>rfl)
theorem qoc {a:qd} {left:Int} (h:qhr a) (h0:0≤left) (h1:left≤1048576):Sz (fun n=>qfv n a left) (fun r=>r=left-(qcA a:Int)):=by
 unfold qfv
 obtain ⟨h_0,h_1,h_2⟩:=h
 exact Sz.step (qlL (a:=a.Aa) h_0 (by omega) (by omega)) fun r0 p0 q0=>Sz.step (qmO (a:=a.Ac) h_1 (by omega) (by omega)) fun r1 p1 q1=>Sz.step (qoQ (a:=a.Af) h_2 (by omega) (by omega)) fun r2 p2 q2=>Sz.done p2 (by simp only [qcA];omega)
theorem qpB {a:qr} {left:Int} (h:qgA a) (h0:0≤left) (h1:left≤1048576):Sz (fun n=>qfI n a left) (fun r=>r=left-(qdo a:Int)):=by
 unfold qfI
 obtain ⟨h_0,h_1,h_2,h_3⟩:=h
 exact Sz.step (qeb (a:=a.Ah) h_0 (by omega) (by omega)) fun r0 p0 q0=>Sz.step (qeb (a:=a.Bi) h_1 (by omega) (by omega)) fun r1 p1 q1=>Sz.step (qeb (a:=a.Bg) h_2 (by omega) (by omega)) fun r2 p2 q2=>Sz.step (qeb (a:=a.Be) h_3 (by omega) (by omega)) fun r3 p3 q3=>Sz.done p3 (by simp only [qdo];omega)
theorem qoX {a:(List qr)} {left:Int} (h:(rngL qgA) a) (h0:0≤left) (h1:left≤1048576):Sz (fun n=>qhi n a left) (fun r=>r=left-(qdx a:Int)) :=
 Sz.list (Lf:=qcJ a) (wt:=fun x:qr=>qdo x) (el:=qfI) h0 h1 h.1 (fun x hx left p q=>qpB (h.2 x hx) p q)
  (fun acc n=>by simp only [qcJ,qi (je _),cond_false])
  (fun acc n j x hx=>by
   have hj:=(List.getElem?_eq_some_iff.1 hx).1
   have hl:=h.1
   simp only [qcJ,qj hj,cond_true,qA hx,jd,wS j])
  (fun _=>rfl)
theorem qoF {a:qp} {left:Int} (h:qh7 a) (h0:0≤left) (h1:left≤1048576):Sz (fun n=>qf4 n a left) (fun r=>r=left-(qdy a:Int)):=by
 unfold qf4
 obtain ⟨h_0,h_1,h_2⟩:=h
 exact Sz.step (qnd (a:=a.As) h_0 (by omega) (by omega)) fun r0 p0 q0=>Sz.step (qoc (a:=a.Ab) h_1 (by omega) (by omega)) fun r1 p1 q1=>Sz.step (qoX (a:=a.Aq) h_2 (by omega) (by omega)) fun r2 p2 q2=>Sz.done p2 (by simp only [qdy];omega)
theorem qcr {a:(List Int)} (h:qZ a≤1048576):Ev (fun n=>qab n a) a:=by
 have hl:a.length≤1048576:=by simp only [qZ] at h;omega
 unfold qab
 exact Ev.bindN (qfx (by omega)) (Ev.bind (b:=(a,(a.length:Int))) (qfu (cp:=fun _ x=>some x) (fun _ _=>.done)
  (fun acc n=>by simp only [qda,qi (je _),cond_false])
  (fun acc n j x y hx hy=>by
   have hj:=(List.getElem?_eq_some_iff.1 hx).1
   simp only [qda,qj hj,cond_true,qA hx,qA hy,jd,wS j])) .done)
theorem qoZ {a:ql} (h:qb9 a≤1048576):Ev (fun n=>qeR n a) a:=by
 unfold qeR
 simp only [qb9] at h
 exact Ev.bind (qcr (a:=a.Ay) (by omega)) (Ev.bind (qcr (a:=a.Av) (by omega)) (Ev.bind (qcr (a:=a.Ap) (by omega)) (.done)))
theorem qln {a:(List ql)} (h:qbx a≤1048576):Ev (fun n=>qez n a) a:=by
 have hl:a.length≤1048576:=by simp only [qbx] at h;omega
 unfold qez
 exact Ev.bindN (qfx (by omega)) (Ev.bind (b:=(a,(a.length:Int))) (qfu (cp:=qeR) (fun x hx=>qoZ (by have:=qbb (wt:=fun x:ql=>qb9 x) hx;simp only [qbx] at h;omega))
  (fun acc n=>by simp only [qdk,qi (je _),cond_false])
  (fun acc n j x y hx hy=>by
   have hj:=(List.getElem?_eq_some_iff.1 hx).1
   simp only [qdk,qj hj,cond_true,qA hx,qA hy,jd,wS j])) .done)
theorem qpW {a:qz} (h:qfc a≤1048576):Ev (fun n=>qgs n a) a:=by
 unfold qgs
 simp only [qfc] at h
 exact Ev.bind (qln (a:=a.At) (by omega)) (Ev.bind (qln (a:=a.Bb) (by omega)) (.done))
theorem qpw {a:(List qz)} (h:qen a≤1048576):Ev (fun n=>qgO n a) a:=by
 have hl:a.length≤1048576:=by simp only [qen] at h;omega
 unfold qgO
 exact Ev.bindN (qfx (by omega)) (Ev.bind (b:=(a,(a.length:Int))) (qfu (cp:=qgs) (fun x hx=>qpW (by have:=qbb (wt:=fun x:qz=>qfc x) hx;simp only [qen] at h;omega))
  (fun acc n=>by simp only [qdX,qi (je _),cond_false])
  (fun acc n j x y hx hy=>by
   have hj:=(List.getElem?_eq_some_iff.1 hx).1
   simp only [qdX,qj hj,cond_true,qA hx,qA hy,jd,wS j])) .done)
theorem qp3 {a:qF} (_:qgC a≤1048576):Ev (fun n=>qgF n a) a:=by
 unfold qgF
 exact .done
theorem qpq {a:(List qF)} (h:qem a≤1048576):Ev (fun n=>qgV n a) a:=by
 have hl:a.length≤1048576:=by simp only [qem] at h;omega
 unfold qgV
 exact Ev.bindN (qfx (by omega)) (Ev.bind (b:=(a,(a.length:Int))) (qfu (cp:=qgF) (fun x hx=>qp3 (by have:=qbb (wt:=fun x:qF=>qgC x) hx;simp only [qem] at h;omega))
  (fun acc n=>by simp only [qd2,qi (je _),cond_false])
  (fun acc n j x y hx hy=>by
   have hj:=(List.getElem?_eq_some_iff.1 hx).1
   simp only [qd2,qj hj,cond_true,qA hx,qA hy,jd,wS j])) .done)
theorem qpj {a:qk} (h:qdc a≤1048576):Ev (fun n=>qfR n a) a:=by
 unfold qfR
 simp only [qdc] at h
 exact Ev.bind (qpq (a:=a.Ai) (by omega)) (Ev.bind (qpw (a:=a.Ak) (by omega)) (Ev.bind (qcr (a:=a.Au) (by omega)) (.done)))
theorem qox {a:(List qk)} (h:qdA a≤1048576):Ev (fun n=>qf8 n a) a:=by
 have hl:a.length≤1048576:=by simp only [qdA] at h;omega
 unfold qf8
 exact Ev.bindN (qfx (by omega)) (Ev.bind (b:=(a,(a.length:Int))) (qfu (cp:=qfR) (fun x hx=>qpj (by have:=qbb (wt:=fun x:qk=>qdc x) hx;simp only [qdA] at h;omega))
  (fun acc n=>by simp only [qdI,qi (je _),cond_false])
  (fun acc n j x y hx hy=>by
   have hj:=(List.getElem?_eq_some_iff.1 hx).1
   simp only [qdI,qj hj,cond_true,qA hx,qA hy,jd,wS j])) .done)
theorem qne {a:qn} (h:qcs a≤1048576):Ev (fun n=>qe6 n a) a:=by
 unfold qe6
 simp only [qcs] at h
 exact Ev.bind (qox (a:=a.Aj) (by omega)) (.done)
theorem qmw {a:qc} (h:qaF a≤1048576):Ev (fun n=>qdN n a) a:=by
 unfold qdN
 simp only [qaF] at h
 exact Ev.bind (qcr (a:=a.Ac) (by omega)) (.done)
theorem qlW {a:(List qc)} (h:qaK a≤1048576):Ev (fun n=>qd7 n a) a:=by
 have hl:a.length≤1048576:=by simp only [qaK] at h;omega
 unfold qd7
 exact Ev.bindN (qfx (by omega)) (Ev.bind (b:=(a,(a.length:Int))) (qfu (cp:=qdN) (fun x hx=>qmw (by have:=qbb (wt:=fun x:qc=>qaF x) hx;simp only [qaK] at h;omega))
  (fun acc n=>by simp only [qb0,qi (je _),cond_false])
  (fun acc n j x y hx hy=>by
   have hj:=(List.getElem?_eq_some_iff.1 hx).1
   simp only [qb0,qj hj,cond_true,qA hx,qA hy,jd,wS j])) .done)
theorem qm5 {a:(List ByteArray)} (h:qct a≤1048576):Ev (fun n=>qeY n a) a:=by
 have hl:a.length≤1048576:=by simp only [qct] at h;omega
 unfold qeY
 exact Ev.bindN (qfx (by omega)) (Ev.bind (b:=(a,(a.length:Int))) (qfu (cp:=fun _ x=>some x) (fun _ _=>.done)
  (fun acc n=>by simp only [qcS,qi (je _),cond_false])
  (fun acc n j x y hx hy=>by
   have hj:=(List.getElem?_eq_some_iff.1 hx).1
   simp only [qcS,qj hj,cond_true,qA hx,qA hy,jd,wS j])) .done)
theorem qpd {a:qu} (_:qeI a≤1048576):Ev (fun n=>qfL n a) a:=by
 unfold qfL
 exact .done
theorem qor {a:(List qu)} (h:qdB a≤1048576):Ev (fun n=>qf3 n a) a:=by
 have hl:a.length≤1048576:=by simp only [qdB] at h;omega
 unfold qf3
 exact Ev.bindN (qfx (by omega)) (Ev.bind (b:=(a,(a.length:Int))) (qfu (cp:=qfL) (fun x hx=>qpd (by have:=qbb (wt:=fun x:qu=>qeI x) hx;simp only [qdB] at h;omega))
  (fun acc n=>by simp only [qdO,qi (je _),cond_false])
  (fun acc n j x y hx hy=>by
   have hj:=(List.getElem?_eq_some_iff.1 hx).1
   simp only [qdO,qj hj,cond_true,qA hx,qA hy,jd,wS j])) .done)
theorem qnD {a:qd} (h:qcA a≤1048576):Ev (fun n=>qfw n a) a:=by
 unfold qfw
 simp only [qcA] at h
 exact Ev.bind (qlW (a:=a.Aa) (by omega)) (Ev.bind (qm5 (a:=a.Ac) (by omega)) (Ev.bind (qor (a:=a.Af) (by omega)) (.done)))
theorem qpH {a:qr} (h:qdo a≤1048576):Ev (fun n=>qfB n a) a:=by
 unfold qfB
 simp only [qdo] at h
 exact Ev.bind (qcr (a:=a.Ah) (by omega)) (Ev.bind (qcr (a:=a.Bi) (by omega)) (Ev.bind (qcr (a:=a.Bg) (by omega)) (Ev.bind (qcr (a:=a.Be) (by omega)) (.done))))
theorem qos {a:(List qr)} (h:qdx a≤1048576):Ev (fun n=>qf5 n a) a:=by
 have hl:a.length≤1048576:=by simp only [qdx] at h;omega
 unfold qf5
 exact Ev.bindN (qfx (by omega)) (Ev.bind (b:=(a,(a.length:Int))) (qfu (cp:=qfB) (fun x hx=>qpH (by have:=qbb (wt:=fun x:qr=>qdo x) hx;simp only [qdx] at h;omega))
  (fun acc n=>by simp only [qdM,qi (je _),cond_false])
  (fun acc n j x y hx hy=>by
   have hj:=(List.getElem?_eq_some_iff.1 hx).1
   simp only [qdM,qj hj,cond_true,qA hx,qA hy,jd,wS j])) .done)
theorem qi6 {a:qp} (h:qdy a≤1048576):Ev (fun n=>qdz n a) a:=by
 unfold qdz
 simp only [qdy] at h
 exact Ev.bind (qne (a:=a.As) (by omega)) (Ev.bind (qnD (a:=a.Ab) (by omega)) (Ev.bind (qos (a:=a.Aq) (by omega)) (.done)))
end Go.Fw


namespace Go.Fw
open Go
set_option maxRecDepth 100000
theorem qdj {n:Nat} {x lo hi:Int}:qP n x lo hi=some (inI x lo hi):=by
 simp only [qP,qhG,qi3];rfl
theorem qcL {n:Nat} {x lo hi:Int}:qal n x lo hi=some (inI x lo hi):=by
 simp only [qal,qhG,qi3];rfl
def bt (s:ByteArray) (j:Nat):Nat:=(s.data.toList.getD j 0).toNat
theorem qo9 {s:ByteArray} {j:Nat} (h:j<s.size):atS s (j:Int)=some (bt s j:Int):=by
 have h':j<s.data.size:=h
 have hl:j<s.data.toList.length:=by simpa using h'
 unfold atS
 rw [if_pos (by omega),jz]
 have:s[j]?=some (s.data.toList.getD j 0):=by
  rw [getElem?_pos s j h,jD,ji hl]
  rfl
 rw [this]
 rfl
def letB (b:Nat):Bool:=decide (97≤b)&&decide (b≤122)
def digB (b:Nat):Bool:=decide (48≤b)&&decide (b≤57)
def chB (s:ByteArray) (j:Nat):Bool:=letB (bt s j) || digB (bt s j)&&decide (0<j)
def nameB (s:ByteArray):Bool:=(decide (1≤s.size)&&decide (s.size≤8))&&allN (chB s) s.size
theorem qiA {s:ByteArray} (h:okS s):Ev (fun n=>qec n s) (nameB s):=by
 unfold okS at h
 have hL:Ev (fun n=>qbW s n 0) (bif allN (chB s) s.size then .nxt (s.size:Int) else .ret false):=by
  refine qcE ?_ (fun j hj X hX=>?_)
  ·exact Ev.succ (by simp only [qbW,qi (je _),cond_false];exact .done)
  ·refine Ev.succ ?_
   simp only [qbW,qj hj,cond_true,qo9 hj,jd,qhG,qi3,wS j]
   have e1:(decide ((bt s j:Int) ≥ 97)&&decide ((bt s j:Int)≤122))=letB (bt s j):=by unfold letB;rw [jh];simp;omega
   have e2:(decide ((bt s j:Int) ≥ 48)&&decide ((bt s j:Int)≤57))=digB (bt s j):=by unfold digB;rw [jh];simp;omega
   have e3:decide ((j:Int) > 0)=decide (0<j):=by rw [jh];simp
   rw [e1,e2,e3]
   unfold chB
   cases letB (bt s j)<;>cases digB (bt s j)<;>cases decide (0<j)<;>first|exact hX|exact .done
 unfold qec
 refine Ev.cast (r:=bif allN (chB s) s.size then (decide (1≤s.size)&&decide (s.size≤8)) else false) (Ev.bindB hL (fun _=>?_) (fun _=>.done)) ?_
 ·simp only [qhG,qi3]
  exact Ev.now (by congr 1;rw [jh];simp;omega)
 ·unfold nameB
  cases allN (chB s) s.size<;>simp
def cutset:List UInt8:=[97,98,99,100,101,102,103,104,105,106,107,108,109,110,111,112,113,114,115,116,117,118,119,120,121,122,48,49,50,51,52,53,54,55,56,57]
theorem qkK (b:UInt8):cutset.contains b=(letB b.toNat || digB b.toNat):=by
 have h0:(List.range 256).all (fun m=>cutset.contains (UInt8.ofNat m)==(letB (UInt8.ofNat m).toNat || digB (UInt8.ofNat m).toNat))=true:=by kernel_rfl
 have h:=List.all_eq_true.1 h0 b.toNat (List.mem_range.2 b.toNat_lt)
 rw [beq_iff_eq] at h
 simpa using h
def letters:List UInt8:=[97,98,99,100,101,102,103,104,105,106,107,108,109,110,111,112,113,114,115,116,117,118,119,120,121,122]
theorem qmP (m:Nat) (hm:m<256):decide ((Lib.indexByte letters m.toUInt8) ≥ 0)=letB m:=by
 have h0:(List.range 256).all (fun m=>decide ((Lib.indexByte letters m.toUInt8) ≥ 0)==letB m)=true:=by kernel_rfl
 have h:=List.all_eq_true.1 h0 m (List.mem_range.2 hm)
 rwa [beq_iff_eq] at h
theorem qlh {α:Type} {p:α→Bool} {l:List α}:l.dropWhile p=[]↔∀ x,x ∈ l→p x=true:=by
 induction l with
 | nil=>simp
 | cons y l ih =>
  rw [List.dropWhile_cons]
  by_cases h:p y=true
  ·rw [if_pos h,ih];simp [h]
  ·rw [if_neg h];simp [h]
theorem qk1 {α:Type} {p:α→Bool} {l:List α} (h:∀ x,x ∈ l.dropWhile p→p x=true):∀ x,x ∈ l→p x=true:=by
 induction l with
 | nil=>simp
 | cons y l ih =>
  rw [List.dropWhile_cons] at h
  by_cases hy:p y=true
  ·rw [if_pos hy] at h
   intro x hx
   rcases List.mem_cons.1 hx with rfl|hx
   ·exact hy
   ·exact ih h x hx
  ·rw [if_neg hy] at h
   exact h
theorem qoL {l cs:List UInt8}:Lib.trimS l cs=[]↔∀ x,x ∈ l→cs.contains x=true:=by
 unfold Lib.trimS Lib.trimRightS Lib.trimLeftS
 rw [qlh]
 constructor
 ·intro h x hx
  exact qk1 (p:=(cs.contains ·)) (l:=l.reverse) (fun y hy=>h y (List.mem_reverse.2 hy)) x (List.mem_reverse.2 hx)
 ·intro h x hx
  exact h x (List.mem_reverse.1 ((List.dropWhile_suffix _).subset (List.mem_reverse.1 hx)))
theorem qex {a b:ByteArray}:(a.toList==b.toList)=decide (a=b):=by
 rw [jh,beq_iff_eq,decide_eq_true_iff]
 constructor
 ·intro h
  exact ByteArray.ext (by have:=congrArg List.toArray h;simpa [ByteArray.toList_eq] using this)
 ·rintro rfl;rfl
end Go.Fw


namespace Go.Fw
open Go
set_option maxRecDepth 100000
theorem qpQ {s:ByteArray} {j:Nat} (h:j<s.data.toList.length):bt s j=(s.data.toList[j]).toNat:=by
 unfold bt;rw [jD,ji h];rfl
theorem qqs {s:ByteArray} {j:Nat}:bt s j<256:=UInt8.toNat_lt _
theorem qlj {n:Nat} {s:ByteArray} (h:okS s):qfF n s=some (nameB s):=by
 unfold okS at h
 have hl:s.data.toList.length=s.size:=by simp
 simp only [qfF,qcL,jd]
 cases hI:inI (s.size:Int) 1 8 with
 | false =>
  have hs:(decide (1≤s.size)&&decide (s.size≤8))=false:=by rw [qod] at hI;rw [Bool.and_eq_false_iff,decide_eq_false_iff_not,decide_eq_false_iff_not];omega
  simp [nameB,hs]
 | true =>
  have hs:1≤s.size∧s.size≤8:=by rw [qb7] at hI;omega
  have hT:qe8 n s (⟨#[97,98,99,100,101,102,103,104,105,106,107,108,109,110,111,112,113,114,115,116,117,118,119,120,121,122,48,49,50,51,52,53,54,55,56,57]⟩:ByteArray)=some ⟨(Lib.trimS s.data.toList cutset).toArray⟩:=by
   unfold qe8
   rw [if_pos ⟨by omega,by decide,by decide⟩]
   rfl
  rw [hT]
  simp only [cond_true,jd]
  have hE:(((⟨(Lib.trimS s.data.toList cutset).toArray⟩:ByteArray).toList==(⟨#[]⟩:ByteArray).toList))=allN (fun j=>letB (bt s j) || digB (bt s j)) s.size:=by
   rw [qex,jh,decide_eq_true_iff,qaI]
   have:((⟨(Lib.trimS s.data.toList cutset).toArray⟩:ByteArray)=⟨#[]⟩)↔Lib.trimS s.data.toList cutset=[]:=by
    constructor
    ·intro he
     have:=congrArg (fun x:ByteArray=>x.data.toList) he
     simpa using this
    ·intro he;rw [he]
   rw [this,qoL]
   constructor
   ·intro hx j hj
    have hj':j<s.data.toList.length:=by omega
    have:=hx _ (jq hj')
    rw [qkK,←qpQ hj'] at this
    exact this
   ·intro hx x hm
    obtain ⟨j,hj,rfl⟩:=jF hm
    have:=hx j (by omega)
    rw [qkK,←qpQ hj]
    exact this
  rw [hE]
  have h0:atS s 0=some (bt s 0:Int):=qo9 (j:=0) (by omega)
  have hI2:decide (Lib.indexByte letters (bt s 0:Int).toNat.toUInt8 ≥ 0)=letB (bt s 0):=by
   rw [jz];exact qmP _ qqs
  have hF:∀ b:Bool,(bif b then (atS s 0).bind fun y1=>(qdU n (⟨#[97,98,99,100,101,102,103,104,105,106,107,108,109,110,111,112,113,114,115,116,117,118,119,120,121,122]⟩:ByteArray) (⟨y1⟩:IntK .u8)).bind fun r3=>some (decide (r3 ≥ 0)) else some false)=some (b&&letB (bt s 0)):=by
   intro b
   cases b with
   | false=>rfl
   | true =>
    rw [h0]
    simp only [cond_true,jd,qdU,jt]
    exact congrArg some hI2
  rw [hF]
  congr 1
  have hs':(decide (1≤s.size)&&decide (s.size≤8))=true:=by simp [hs]
  unfold nameB
  rw [hs',jt,jh,jf,qaI,qaI]
  simp only [chB,Bool.or_eq_true,jf,decide_eq_true_eq]
  constructor
  ·rintro ⟨h1,h2⟩ j hj
   rcases Nat.eq_zero_or_pos j with rfl|hp
   ·exact .inl h2
   ·exact (h1 j hj).imp id (fun h=>⟨h,hp⟩)
  ·intro h1
   refine ⟨fun j hj=>(h1 j hj).imp id (fun h=>h.1),?_⟩
   rcases h1 0 (by omega) with h2|h2
   ·exact h2
   ·omega
def strAt (xs:List ByteArray) (j:Nat):ByteArray:=xs.getD j ByteArray.empty
theorem qi0 {xs:List ByteArray} {j:Nat} (h:j<xs.length):strAt xs j=xs[j]:=by simp [strAt,h]
theorem qkf {xs:List ByteArray} {j:Nat} (h:j<xs.length):idx xs (j:Int)=some (strAt xs j):=by rw [qfm h,qi0 h]
def neB (xs:List ByteArray) (j i:Nat):Bool:=!decide (strAt xs i=strAt xs j)
def namesB (xs:List ByteArray):Bool:=allN (fun j=>nameB (strAt xs j)&&allN (neB xs j) j) xs.length
theorem qhV {xs:List ByteArray} (h:okL okS xs):Ev (fun n=>qdQ n xs) (namesB xs):=by
 have hl:=h.len
 have hL2:∀ j,j<xs.length→Ev (fun n=>qce xs (j:Int) n 0) (bif allN (neB xs j) j then .nxt (j:Int) else .ret false):=by
  intro j hj
  refine qcE ?_ (fun i hi X hX=>Ev.succ ?_)
  ·exact Ev.succ (by simp only [qce,qi (je _),cond_false];exact .done)
  ·simp only [qce,qj hi,cond_true,qkf (show i<xs.length by omega),qkf hj,jd,qex,wS i]
   unfold neB
   cases decide (strAt xs i=strAt xs j)
   ·exact hX
   ·exact .done
 have hL1:Ev (fun n=>qcg xs n 0) (bif namesB xs then .nxt (xs.length:Int) else .ret false):=by
  refine qcE ?_ (fun j hj X hX=>Ev.succ ?_)
  ·exact Ev.succ (by simp only [qcg,qi (je _),cond_false];exact .done)
  ·simp only [qcg,qj hj,cond_true,qkf hj,jd,wS j]
   refine Ev.bind (qiA (by rw [qi0 hj];exact h.at hj)) ?_
   cases nameB (strAt xs j)
   ·exact .done
   ·refine Ev.ff rfl (Ev.bind (hL2 j hj) ?_)
    cases allN (neB xs j) j
    ·exact .done
    ·exact hX
 unfold qdQ
 refine Ev.bind hL1 ?_
 cases namesB xs<;>exact .done
theorem qmI {xs:List ByteArray} {v:ByteArray} (hl:xs.length≤1048576):Ev (fun n=>qc4 n xs v) (ixL (fun x=>decide (v=x)) xs) :=
 qfG (fin:=(xs.length:Int)) (Lf:=qaQ xs v) (pf:=fun _ x=>some (decide (v=x))) (fun _ _=>.done)
  (fun n=>by simp only [qaQ,qi (je _),cond_false])
  (fun n j x hx=>by
   have hj:=(List.getElem?_eq_some_iff.1 hx).1
   simp only [qaQ,qj hj,cond_true,qA hx,jd,qex,wS j])
  (fun n=>by unfold qc4;congr 1;funext o;cases o<;>rfl)
theorem qky {xs:List ByteArray} {v:ByteArray} (hl:xs.length≤1048576):Ev (fun n=>qb8 n xs v) (xs.any fun x=>decide (v=x)):=by
 unfold qb8
 exact Ev.bind (qmI hl) (Ev.now (by rw [qiD]))
theorem qfO {xs:List ByteArray} (h:okL okS xs):Ev (fun n=>qcd n xs) (namesB xs):=by
 have hl:=h.len
 have hL1:Ev (fun n=>qci xs n 0) (bif namesB xs then .nxt (xs.length:Int) else .ret false):=by
  refine qcE ?_ (fun j hj X hX=>Ev.succ ?_)
  ·exact Ev.succ (by simp only [qci,qi (je _),cond_false];exact .done)
  ·have hs:subS xs 0 (j:Int)=some (xs.take j):=by
    unfold subS
    rw [if_pos ⟨by omega,by omega,by omega⟩]
    simp
   simp only [qci,qj hj,cond_true,qkf hj,jd,hs,qlj (show okS (strAt xs j) by rw [qi0 hj];exact h.at hj),wS j]
   cases nameB (strAt xs j)
   ·exact .done
   ·refine Ev.ff rfl (Ev.bind (qky (by simp;omega)) ?_)
    have:((xs.take j).any fun x=>decide (strAt xs j=x)) = !allN (neB xs j) j:=by
     rw [qmD (d:=ByteArray.empty)]
     congr 1
     rw [List.length_take,Nat.min_eq_left (by omega)]
     refine qeK (fun i hi=>?_)
     unfold neB strAt
     congr 1
     have:(xs.take j).getD i ByteArray.empty=xs.getD i ByteArray.empty:=by simp [jD,hi]
     rw [this]
     exact decide_eq_decide.2 eq_comm
    rw [this]
    cases allN (neB xs j) j
    ·exact .done
    ·exact hX
 unfold qcd
 refine Ev.bind hL1 ?_
 cases namesB xs<;>exact .done
end Go.Fw


namespace Go.Fw
open Go
set_option maxRecDepth 100000
theorem qlb {n:Nat} {x lo hi:Int}:qd5 n x lo hi=some (!inI x lo hi):=by simp only [qd5,qcL,jd]
theorem qdu {xs:List Int} {lo hi:Int} (hl:xs.length≤1048576):Ev (fun n=>qaY n xs lo hi) (xs.all fun x=>inI x lo hi):=by
 have h1:Ev (fun n=>qad n xs lo hi) (ixL (fun x=>!inI x lo hi) xs) :=
  qfG (fin:=(xs.length:Int)) (Lf:=qD xs lo hi) (pf:=fun _ x=>some (!inI x lo hi)) (fun _ _=>.done)
   (fun n=>by simp only [qD,qi (je _),cond_false])
   (fun n j x hx=>by
    have hj:=(List.getElem?_eq_some_iff.1 hx).1
    simp only [qD,qj hj,cond_true,qA hx,jd,qlb,wS j])
   (fun n=>by unfold qad;congr 1;funext o;cases o<;>rfl)
 unfold qaY qaz
 refine Ev.bind (Ev.bind h1 (Ev.now rfl)) (Ev.now ?_)
 rw [qiD,qkh]
def stepB (xs:List Int) (j:Nat):Bool:=decide (j=0) || decide (at0 xs (j-1)<at0 xs j)
def incB (xs:List Int):Bool:=allN (stepB xs) xs.length
theorem qhA {xs:List Int} (hl:xs.length≤1048576):Ev (fun n=>qcT n xs) (incB xs):=by
 have hL:Ev (fun n=>qaw xs n 1) (bif incB xs then .nxt (max 1 xs.length:Int) else .ret false):=by
  by_cases h0:xs.length=0
  ·have hb:incB xs=true:=by unfold incB;rw [h0];rfl
   rw [hb]
   refine Ev.succ ?_
   have:decide ((1:Int)<(xs.length:Int))=false:=by rw [h0];decide
   simp only [qaw,this,cond_false]
   exact Ev.now (by rw [h0];rfl)
  ·have:=qnq (Lf:=qaw xs) (len:=xs.length) (i0:=1) (f:=stepB xs) (bad:=false) (fin:=.nxt (max 1 xs.length:Int)) (by omega)
    (Ev.succ (by
     simp only [qaw,qi (je _),cond_false]
     exact Ev.now (by congr 2;omega)))
    (fun j h1 hj X hX=>Ev.succ (by
     simp only [qaw,qj hj,cond_true,wS j,show (j:Int)-1=((j-1:Nat):Int) by omega,qap (show -9223372036854775808≤((j-1:Nat):Int) by omega) (by omega),qcZ (show j-1<xs.length by omega),qcZ hj,jd]
     unfold stepB
     by_cases hc:at0 xs (j-1)<at0 xs j
     ·have e1:decide (at0 xs (j-1) ≥ at0 xs j)=false:=by simp;omega
      rw [e1];simp only [hc,decide_true,Bool.or_true,cond_true,cond_false];exact hX
     ·have e1:decide (at0 xs (j-1) ≥ at0 xs j)=true:=by simp;omega
      have e2:decide (j=0)=false:=by simp;omega
      rw [e1,e2];simp only [hc,decide_false,Bool.or_self,cond_true,cond_false];exact .done))
   have e:allN (fun j=>stepB xs (1+j)) (xs.length-1)=incB xs:=by
    unfold incB
    rw [jh,qaI,qaI]
    constructor
    ·intro h j hj
     cases j with
     | zero=>rfl
     | succ j=>have:=h j (by omega);rwa [Nat.add_comm] at this
    ·intro h j hj
     exact h (1+j) (by omega)
   rw [e] at this
   exact this
 unfold qcT
 refine Ev.bind hL ?_
 cases incB xs<;>exact .done
def lenB {α:Type} (xs:List α) (lo hi:Nat):Bool:=decide (lo≤xs.length)&&decide (xs.length≤hi)
theorem qlG {α:Type} {xs:List α} {lo hi:Nat}:inI (xs.length:Int) (lo:Int) (hi:Int)=lenB xs lo hi:=by
 unfold inI lenB;rw [jh];simp
def axisB (xs:List Int):Bool:=lenB xs 1 4&&((xs.all fun x=>inI x 0 100000)&&incB xs)
theorem qly {xs:List Int} (hl:xs.length≤1048576):Ev (fun n=>qfJ n xs) (axisB xs):=by
 simp only [qfJ,qaU,jd,qcL,show inI (xs.length:Int) 1 4=lenB xs 1 4 from qlG (lo:=1) (hi:=4)]
 unfold axisB
 cases lenB xs 1 4
 ·exact .done
 ·refine Ev.tt rfl (Ev.bind (qdu hl) ?_)
  cases (xs.all fun x=>inI x 0 100000)
  ·exact .done
  ·exact Ev.tt rfl (Ev.bind (qhA hl) .done)
theorem qkz {xs:List Int} (hl:xs.length≤1048576):Ev (fun n=>qeV n xs) (axisB xs):=by
 have hL:Ev (fun n=>qbX xs n 0) (bif allN (fun j=>inI (at0 xs j) 0 100000&&stepB xs j) xs.length then .nxt (xs.length:Int) else .ret false):=by
  refine qcE ?_ (fun j hj X hX=>Ev.succ ?_)
  ·exact Ev.succ (by simp only [qbX,qi (je _),cond_false];exact .done)
  ·simp only [qbX,qj hj,cond_true,qcZ hj,jd,qdj,wS j]
   cases inI (at0 xs j) 0 100000
   ·exact .done
   ·simp only [Bool.not_true,cond_false,jt]
    unfold stepB
    by_cases h0:j=0
    ·subst h0
     exact Ev.ff (by decide) hX
    ·simp only [show (j:Int)-1=((j-1:Nat):Int) by omega,qap (show -9223372036854775808≤((j-1:Nat):Int) by omega) (by omega),qcZ (show j-1<xs.length by omega),jd]
     have e2:decide (j=0)=false:=by simp;omega
     have e3:decide ((j:Int) > 0)=true:=by simp;omega
     rw [e2,e3]
     simp only [cond_true,Bool.false_or]
     by_cases hc:at0 xs (j-1)<at0 xs j
     ·have e1:decide (at0 xs (j-1) ≥ at0 xs j)=false:=by simp;omega
      rw [e1];simp only [hc,decide_true,cond_true,cond_false];exact hX
     ·have e1:decide (at0 xs (j-1) ≥ at0 xs j)=true:=by simp;omega
      rw [e1];simp only [hc,decide_false,cond_true,cond_false];exact .done
 have e:axisB xs=(allN (fun j=>inI (at0 xs j) 0 100000&&stepB xs j) xs.length&&lenB xs 1 4):=by
  unfold axisB incB
  rw [qha,qgp (d:=0),Bool.and_comm]
  rfl
 rw [e]
 unfold qeV
 refine Ev.bind hL ?_
 cases allN (fun j=>inI (at0 xs j) 0 100000&&stepB xs j) xs.length
 ·exact .done
 ·simp only [cond_true,qhG,qi3,jt]
  exact Ev.now (by congr 1;unfold lenB;rw [jh];simp;omega)
def tableB (t:ql):Bool:=axisB t.Ay&&(axisB t.Av&&(decide (t.Ap.length=t.Ay.length*t.Av.length)&&(t.Ap.all fun x=>inI x (-1000000) 1000000)))
theorem qnv {a b:Nat} (ha:a≤1048576) (hb:b≤1048576):W64 ((a:Int)*(b:Int))=((a*b:Nat):Int):=by
 have h:a*b≤1048576*1048576:=Nat.mul_le_mul ha hb
 have e:(a:Int)*(b:Int)=((a*b:Nat):Int):=by simp
 rw [e]
 exact qap (by omega) (by omega)
theorem qm4 {t:ql} (h:qe5 t):Ev (fun n=>qgk n t) (tableB t):=by
 unfold qgk tableB
 refine Ev.bind (qly h.Ay.len) ?_
 cases axisB t.Ay
 ·exact .done
 ·refine Ev.tt rfl (Ev.bind (qly h.Av.len) ?_)
  cases axisB t.Av
  ·exact .done
  ·rw [qnv h.Ay.len h.Av.len]
   have e:(((t.Ap.length:Nat):Int)==((t.Ay.length*t.Av.length:Nat):Int))=decide (t.Ap.length=t.Ay.length*t.Av.length):=by rw [jh];simp;omega
   rw [e]
   cases decide (t.Ap.length=t.Ay.length*t.Av.length)
   ·exact .done
   ·exact Ev.tt rfl (Ev.tt rfl (Ev.bind (qdu h.Ap.len) .done))
theorem qmq {t:ql} (h:qe5 t):Ev (fun n=>qgd n t) (tableB t):=by
 have hl:=h.Ap.len
 have hL:Ev (fun n=>qcI t n 0) (bif (t.Ap.all fun x=>inI x (-1000000) 1000000) then .nxt (t.Ap.length:Int) else .ret false) :=
  qja (fun n=>by simp only [qcI,qi (je _),cond_false]) (fun j hj X hX=>by
   simp only [qcI,qj hj,cond_true,qfm hj,jd,qdj,wS j]
   cases inI t.Ap[j] (-1000000) 1000000
   ·exact .done
   ·exact hX)
 unfold qgd tableB
 refine Ev.bind (b:=!(axisB t.Ay&&(axisB t.Av&&decide (t.Ap.length=t.Ay.length*t.Av.length)))) ?_ ?_
 ·refine Ev.bind (qkz h.Ay.len) ?_
  cases axisB t.Ay
  ·exact .done
  ·refine Ev.ff rfl (Ev.bind (qkz h.Av.len) ?_)
   cases axisB t.Av
   ·exact .done
   ·refine Ev.ff rfl (Ev.now ?_)
    rw [qnv h.Ay.len h.Av.len]
    congr 1
    rw [jh];simp;omega
 ·cases axisB t.Ay
  ·exact .done
  ·cases axisB t.Av
   ·exact .done
   ·cases decide (t.Ap.length=t.Ay.length*t.Av.length)
    ·exact .done
    ·refine Ev.ff rfl (Ev.bind hL ?_)
     cases (t.Ap.all fun x=>inI x (-1000000) 1000000)<;>exact .done
end Go.Fw


namespace Go.Fw
open Go
set_option maxRecDepth 100000
instance:Inhabited qF:=⟨⟨ByteArray.empty,0,0,false⟩⟩
instance:Inhabited ql:=⟨⟨[],[],[]⟩⟩
instance:Inhabited qz:=⟨⟨0,0,0,0,[],[]⟩⟩
instance:Inhabited qk:=⟨⟨ByteArray.empty,0,[],[],[],0,0⟩⟩
instance:Inhabited qc:=⟨⟨ByteArray.empty,0,[]⟩⟩
instance:Inhabited qu:=⟨⟨ByteArray.empty,0,0⟩⟩
instance:Inhabited qr:=⟨⟨[],[],[],[]⟩⟩
theorem lastE {j m:Nat} (h:j<m) (hm:m≤1048576):((j:Int)==W64 ((m:Int)-1))=decide (j+1=m):=by
 rcases qpD h with h|h
 ·exact h
 ·omega
theorem qgo {α:Type} [Inhabited α] {xs:List α} {g:α→ByteArray} {j:Nat} (h:j<xs.length):strAt (xs.map g) j=g (gt xs j):=by
 rw [qi0 (by simpa using h),qiq h];simp
theorem qh6 {α:Type} {xs:List α} {g:α→ByteArray} {ok:α→Prop} (h:okL ok xs) (hg:∀ x,ok x→okS (g x)):okL okS (xs.map g) :=
 ⟨by rw [List.length_map];exact h.1,fun y hy=>by
  obtain ⟨x,hx,rfl⟩:=List.mem_map.1 hy
  exact hg x (h.2 x hx)⟩
theorem qg7 {α β:Type} {xs:List α} {g:α→β} {j:Nat} (h:j<xs.length) (hl:xs.length≤1048576) {y:β}:appS ((xs.take j).map g) [y]=some ((xs.take j).map g++[y]) :=
 qh9 (by simp;omega)
def pinB (ps:List qF) (j:Nat):Bool :=
 bif decide (j+1=ps.length) then ((gt ps j).Bh==2)&&(((gt ps j).Bg==0)&&!(gt ps j).Ba) else ((gt ps j).Bh==1)&&inI (gt ps j).Bg 0 500
def pinsB (ps:List qF):Bool:=allN (pinB ps) ps.length&&(lenB ps 2 5&&namesB (ps.map qF.Am))
def clkN (ps:List qF) (j:Nat):Nat:=cntP (fun i=>(gt ps i).Ba) j
theorem qni {ps:List qF} (h:okL qh2 ps):Ev (fun n=>qgi n ps) (pinsB ps):=by
 have hl:=h.len
 have hL:Ev (fun n=>qbu ps n ([]:List ByteArray) 0) (bif allN (pinB ps) ps.length then .nxt (ps.map qF.Am,(ps.length:Int)) else .ret false):=by
  refine loopN (Lf:=qbu ps) (S:=fun j=>(ps.take j).map qF.Am) (pinB ps) (fun n=>?_) (fun j hj hp X hX=>?_)
  ·simp only [qbu,qi (je _),cond_false,List.take_length]
  ·simp only [qbu,qj hj,cond_true,qan hj,jd,qg7 hj hl,qd6 (g:=qF.Am) hj,lastE hj hl,bne,qaL,qcL,wS j]
   generalize hc:pinB ps j=c at hX ⊢
   unfold pinB at hc
   cases hd:decide (j+1=ps.length)
   ·rw [hd] at hc
    simp only [cond_false] at hc ⊢
    subst hc
    exact Ev.okP (fun h1=>Ev.okP1 (fun h2=>hX (by rw [h1,h2];rfl)))
   ·rw [hd] at hc
    simp only [cond_true] at hc ⊢
    subst hc
    refine Ev.okP (fun h1=>Ev.okP (fun h2=>Ev.chkP1 (fun h3=>hX (by rw [h1,h2,h3];rfl))))
 unfold qgi pinsB
 refine Ev.bind hL ?_
 cases allN (pinB ps) ps.length
 ·exact .done
 ·simp only [cond_true,qa8,qcL,jd,show inI (ps.length:Int) 2 5=lenB ps 2 5 from qlG (lo:=2) (hi:=5),jt]
  exact Ev.andP (fun _=>Ev.last (qfO (qh6 h (fun x hx=>hx.Am))))
def pinS (ps:List qF) (j:Nat):Bool:=allN (neB (ps.map qF.Am) j) j&&((nameB (gt ps j).Am&&inI (gt ps j).Bg 0 500)&&(bif decide (j+1=ps.length) then ((gt ps j).Bh==2)&&(((gt ps j).Bg==0)&&!(gt ps j).Ba) else ((gt ps j).Bh==1)))
theorem qpo {ps:List qF}:(lenB ps 2 5&&allN (pinS ps) ps.length)=pinsB ps:=by
 have e:namesB (ps.map qF.Am)=allN (fun j=>nameB (gt ps j).Am&&allN (neB (ps.map qF.Am) j) j) ps.length:=by
  unfold namesB
  rw [List.length_map]
  exact qeK (fun j hj=>by rw [qgo hj])
 unfold pinsB
 rw [e,←Bool.and_assoc,Bool.and_comm (allN (pinB ps) ps.length),Bool.and_assoc,←qha]
 congr 1
 refine qeK (fun j hj=>?_)
 unfold pinS pinB
 cases hd:decide (j+1=ps.length)
 ·simp only [cond_false]
  cases allN (neB (ps.map qF.Am) j) j<;>cases nameB (gt ps j).Am<;>cases inI (gt ps j).Bg 0 500<;>cases ((gt ps j).Bh==1)<;>rfl
 ·simp only [cond_true]
  cases hcap:((gt ps j).Bg==0)
  ·simp
  ·have:inI (gt ps j).Bg 0 500=true:=by rw [beq_iff_eq] at hcap;rw [hcap];rfl
   rw [this]
   cases allN (neB (ps.map qF.Am) j) j<;>cases nameB (gt ps j).Am<;>cases ((gt ps j).Bh==2)<;>cases (gt ps j).Ba<;>rfl
theorem qnk {c:qk} (h:okL qh2 c.Ai):Ev (fun n=>qf0 n c) (bif pinsB c.Ai then (((clkN c.Ai c.Ai.length:Nat):Int),true) else (0,false)):=by
 have hl:=h.len
 have hL2:∀ j,j<c.Ai.length→Ev (fun n=>qcM c (j:Int) (gt c.Ai j) n 0) (bif allN (neB (c.Ai.map qF.Am) j) j then .nxt (j:Int) else .ret (0,false)):=by
  intro j hj
  refine qcE ?_ (fun i hi X hX=>Ev.succ ?_)
  ·exact Ev.succ (by simp only [qcM,qi (je _),cond_false];exact .done)
  ·simp only [qcM,qj hi,cond_true,qan (show i<c.Ai.length by omega),jd,qex,wS i]
   unfold neB
   rw [qgo (g:=qF.Am) (show i<c.Ai.length by omega),qgo (g:=qF.Am) hj]
   exact Ev.chkP1 (fun _=>hX)
 have hL1:Ev (fun n=>qbr c n 0 0) (bif allN (pinS c.Ai) c.Ai.length then .nxt (((clkN c.Ai c.Ai.length:Nat):Int),(c.Ai.length:Int)) else .ret (0,false)):=by
  refine loopN (Lf:=qbr c) (S:=fun j=>((clkN c.Ai j:Nat):Int)) (pinS c.Ai) (fun n=>?_) (fun j hj hp X hX=>?_)
  ·simp only [qbr,qi (je _),cond_false]
  ·have hn:clkN c.Ai j≤j:=qe2
   have ejl:((j:Int)==W64 ((c.Ai.length:Int)-1))=decide (j+1=c.Ai.length):=lastE hj hl
   have elt:decide ((j:Int)<W64 ((c.Ai.length:Int)-1)) = !decide (j+1=c.Ai.length):=by
    rw [qap (by omega) (by omega),jh];simp;omega
   simp only [qbr,qj hj,cond_true,qan hj,jd,wS j,qdp (show clkN c.Ai j<9223372036854775807 by omega),ejl,elt,qdj]
   unfold pinS
   refine Ev.bind (hL2 j hj) ?_
   cases ha:allN (neB (c.Ai.map qF.Am) j) j
   ·exact .done
   ·simp only [cond_true,jt]
    refine Ev.chkT ?_ (fun h1=>?_)
    ·exact Ev.or (qiA (qhT h hj).Am) (fun _=>.done)
    ·refine Ev.chkT1 ?_ (fun h2=>?_)
     ·cases decide (j+1=c.Ai.length)
      ·exact .done
      ·simp only [cond_true,Bool.not_true,cond_false,bne,qaL]
       cases ((gt c.Ai j).Bh==2)<;>cases ((gt c.Ai j).Bg==0)<;>cases (gt c.Ai j).Ba<;>exact .done
     ·have hX:=hX (by unfold pinS;rw [ha,h1,h2];rfl)
      have hck:clkN c.Ai (j+1)=clkN c.Ai j+(bif (gt c.Ai j).Ba then 1 else 0):=rfl
      rw [hck] at hX
      cases hc:(gt c.Ai j).Ba
      ·rw [hc] at hX;exact Ev.ff rfl hX
      ·rw [hc] at hX;exact Ev.tt rfl hX
 rw [←qpo]
 unfold qf0
 refine Ev.guard ?_ (fun h1=>?_)
 ·unfold lenB
  have e1:decide ((c.Ai.length:Int)<2) = !decide (2≤c.Ai.length):=by rw [jh];simp;omega
  have e2:decide ((c.Ai.length:Int) > 5) = !decide (c.Ai.length≤5):=by rw [jh];simp;omega
  rw [e1,e2]
  cases decide (2≤c.Ai.length)<;>cases decide (c.Ai.length≤5)<;>exact .done
 ·refine Ev.bind hL1 ?_
  cases allN (pinS c.Ai) c.Ai.length<;>exact .done
def mnL (xs:List Int):Int:=(xs.drop 1).foldl (fun m y=>if y<m then y else m) (at0 xs 0)
def mxL (xs:List Int):Int:=(xs.drop 1).foldl (fun m y=>if y > m then y else m) (at0 xs 0)
theorem qkD {t:ql} (h:tableB t=true):1≤t.Ap.length:=by
 unfold tableB axisB lenB at h
 simp only [jf,decide_eq_true_eq] at h
 obtain ⟨⟨⟨h1,_⟩,_⟩,⟨⟨h2,_⟩,_⟩,h3,_⟩:=h
 rw [h3]
 exact Nat.mul_pos h1 h2
theorem qph {xs:List Int} (h1:1≤xs.length) (hl:xs.length≤1048576):Ev (fun n=>qeh n xs) (mnL xs):=by
 have hL:=(qlC (Lf:=fun n t j=>qbp xs n t j) (xs:=xs) (step:=fun (m y:Int)=>if y<m then y else m) (fin:=fun t=>(t,(xs.length:Int))) 1 (at0 xs 0) (fun _ _=>True) h1 trivial (fun _ _ _ _=>trivial)
  (fun n t=>by simp only [qbp,qi (je _),cond_false])
  (fun j t hj _ X hX=>by simpa only [qbp,qj hj,cond_true,qfm hj,jd,wS j] using hX)).1
 unfold qeh
 rw [show decide ((xs.length:Int)<1)=false by simp;omega,show idx xs (0:Int)=some (at0 xs 0) from qcZ (j:=0) (by omega)]
 simp only [cond_false,jd]
 exact Ev.bind hL .done
theorem qnh {t:ql} (h:qe5 t):Ev (fun n=>qed n t) (bif tableB t then (⟨mnL t.Ap,mxL t.Ap⟩,0) else (⟨0,0⟩,1)):=by
 unfold qed
 refine Ev.chk1 (qmq h) (fun hb=>?_)
 have h1:=qkD hb
 have hl:=h.Ap.len
 have hL:=(qlC (Lf:=fun n (t':Int × Int) j=>qbn t n t'.1 t'.2 j) (xs:=t.Ap) (step:=fun (m:Int × Int) y=>(if y<m.1 then y else m.1,if y > m.2 then y else m.2)) (fin:=fun t'=>(t'.1,t'.2,(t.Ap.length:Int))) 1 (at0 t.Ap 0,at0 t.Ap 0) (fun _ _=>True) h1 trivial (fun _ _ _ _=>trivial)
  (fun n t=>by simp only [qbn,qi (je _),cond_false])
  (fun j t hj _ X hX=>by simpa only [qbn,qj hj,cond_true,qfm hj,jd,wS j] using hX)).1
 have hf:∀ (ys:List Int) (a b:Int),ys.foldl (fun (m:Int × Int) y=>(if y<m.1 then y else m.1,if y > m.2 then y else m.2)) (a,b)=(ys.foldl (fun m y=>if y<m then y else m) a,ys.foldl (fun m y=>if y > m then y else m) b):=by
  intro ys
  induction ys with
  | nil=>intro a b;rfl
  | cons y ys ih=>intro a b;simp only [List.foldl_cons,ih]
 rw [hf] at hL
 rw [show idx t.Ap (0:Int)=some (at0 t.Ap 0) from qcZ (j:=0) (by omega)]
 simp only [jd]
 exact Ev.bind hL .done
def tabB (pos:Bool) (t:ql):Bool:=tableB t&&(!pos || decide (0≤mnL t.Ap))
def tablesB (ts:List ql) (pos:Bool):Bool:=decide (ts.length=2)&&ts.all (tabB pos)
theorem qhw {ts:List ql} {pos:Bool} (h:okL qe5 ts):Ev (fun n=>qdm n ts pos) (tablesB ts pos):=by
 have hl:=h.len
 have h1:Ev (fun n=>qQ n ts pos) (ixL (fun x=>!tabB pos x) ts) :=
  qfG (fin:=(ts.length:Int)) (Lf:=qw ts pos) (pf:=fun n x=>qd8 n x pos) (fun x hx=>by
    unfold qd8 tabB
    refine Ev.or (qm4 (h.2 x hx)) (fun hb=>?_)
    cases pos
    ·exact .done
    ·refine Ev.tt rfl (Ev.bind (qph (qkD hb) (h.2 x hx).Ap.len) (Ev.now ?_))
     congr 1
     rw [jh];simp)
   (fun n=>by simp only [qw,qi (je _),cond_false])
   (fun n j x hx=>by
    have hj:=(List.getElem?_eq_some_iff.1 hx).1
    simp only [qw,qj hj,cond_true,qA hx,jd,wS j])
   (fun n=>by unfold qQ;congr 1;funext o;cases o<;>rfl)
 unfold qdm qah tablesB
 rw [show ((ts.length:Int)==2)=decide (ts.length=2) by rw [jh];simp;omega]
 refine Ev.andP (fun _=>Ev.bind (Ev.bind h1 (Ev.now rfl)) (Ev.now ?_))
 rw [qiD,qkh]
theorem qe0 {ts:List ql} {pos:Bool} (h:okL qe5 ts):Ev (fun n=>qbL n ts pos) (tablesB ts pos):=by
 unfold qbL tablesB
 rw [show ((ts.length:Int) != 2) = !decide (ts.length=2) by rw [jh];simp;omega]
 simp only [qaL]
 refine Ev.andP (fun h2=>?_)
 have h2:ts.length=2:=by simpa using h2
 have hL:Ev (fun n=>qbk ts pos n 0) (bif allN (fun j=>tabB pos (gt ts j)) ts.length then .nxt (2:Int) else .ret false):=by
  refine qcE (len:=ts.length) ?_ (fun j hj X hX=>Ev.succ ?_)
  ·rw [h2];exact Ev.succ (by simp only [qbk];exact .done)
  ·simp only [qbk,show decide ((j:Int)<2)=true by simp;omega,cond_true,qan hj,jd,wS j]
   refine Ev.bind (qnh (qhT h hj)) ?_
   unfold tabB
   cases tableB (gt ts j)
   ·exact .done
   ·simp only [cond_true,jt]
    refine Ev.ff rfl ?_
    cases pos
    ·exact hX
    ·refine Ev.tt rfl ?_
     rw [show decide (mnL (gt ts j).Ap<0) = !decide (0≤mnL (gt ts j).Ap) by rw [jh];simp]
     simp only [qaL]
     exact Ev.okP1 (fun _=>hX)
 rw [qfX]
 refine Ev.bind hL ?_
 cases allN (fun j=>tabB pos (gt ts j)) ts.length<;>exact .done
end Go.Fw


namespace Go.Fw
open Go
set_option maxRecDepth 100000
theorem qjm {α:Type} [Inhabited α] {xs:List α} {x:Int} (h0:0≤x) (h1:x<xs.length):idx xs x=some (gt xs x.toNat):=by
  have:=qan (xs:=xs) (j:=x.toNat) (by omega)
  rwa [←qje h0] at this
theorem qlo {q:Nat→Bool} {m n:Nat} (h:m≤n):cntP q m≤cntP q n:=by
  induction n with
  | zero =>
    obtain rfl:m=0:=by omega
    exact je _
  | succ n ih =>
    rcases Nat.lt_or_eq_of_le h with h|rfl
    · exact Nat.le_trans (ih (by omega)) (Nat.le_add_right _ _)
    · exact je _
theorem qg0 {m k:Nat}:decide ((m:Int)≤(k:Int))=decide (m≤k):=by rw [jh];simp
theorem qma {q:Nat→Bool} {n i j:Nat} (hi:i<j) (hj:j<n) (h1:q i=true) (h2:q j=true):2≤cntP q n:=by
  have e1:cntP q (i+1)=cntP q i+1:=by rw [cntP,h1];rfl
  have e2:cntP q (j+1)=cntP q j+1:=by rw [cntP,h2];rfl
  have m1:=qlo (q:=q) (show i+1≤j by omega)
  have m2:=qlo (q:=q) (show j+1≤n by omega)
  omega
theorem qom {q:Nat→Bool} {n i j:Nat} (hn:cntP q n≤1) (hi:i<n) (hj:j<n) (h1:q i=true) (h2:q j=true):i=j:=by
  rcases Nat.lt_trichotomy i j with h|h|h
  · have:=qma h hj h1 h2;omega
  · exact h
  · have:=qma h hi h2 h1;omega
def clkIx (ps:List qF):Int:=ixL (fun p=>p.Ba) ps
def clkAt (ps:List qF) (x:Int):Bool:=(gt ps x.toNat).Ba
theorem qoN {c:qk} (hl:c.Ai.length≤1048576):Ev (fun n=>qeG n c) (clkIx c.Ai):=by
  unfold qeG
  refine Ev.bind (b:=clkIx c.Ai) ?_ .done
  exact qfG (fin:=(c.Ai.length:Int)) (Lf:=qx c.Ai) (pf:=fun n x=>qeZ n x) (fun _ _=>.done)
    (fun n=>by simp only [qx,qi (je _),cond_false])
    (fun n j x hx=>by
      have hj:=(List.getElem?_eq_some_iff.1 hx).1
      simp only [qx,qj hj,cond_true,qA hx,jd,wS j])
    (fun n=>by unfold qat;congr 1;funext o;cases o<;>rfl)
def arcI (ps:List qF) (a:qz):Bool :=
  bif (a.Ar==4) || (a.Ar==5) then
    (a.Bc==0)&&(((a.Bb.length:Int)==0)&&(tablesB a.At false&&((a.Az==clkIx ps)&&(decide (a.Az ≥ 0)&&(inI a.To 0 (ps.length-2)&&!(a.To==a.Az))))))
  else
    (tablesB a.At true&&(tablesB a.Bb true&&((a.To==(ps.length:Int)-1)&&inI a.Az 0 (ps.length-2)))) &&
      (bif a.Ar==1 then !clkAt ps a.Az&&inI a.Bc 1 3 else (bif (a.Ar==2) || (a.Ar==3) then clkAt ps a.Az&&(a.Bc==0) else false))
def arcS (ps:List qF) (a:qz):Bool :=
  (inI a.Az 0 (ps.length-2)&&inI a.To 0 (ps.length-1)) &&
    (bif a.Ar==1 then !clkAt ps a.Az&&((a.To==(ps.length:Int)-1)&&(inI a.Bc 1 3&&(tablesB a.At true&&tablesB a.Bb true)))
     else (bif (a.Ar==2) || (a.Ar==3) then clkAt ps a.Az&&((a.To==(ps.length:Int)-1)&&((a.Bc==0)&&(tablesB a.At true&&tablesB a.Bb true)))
     else (bif (a.Ar==4) || (a.Ar==5) then clkAt ps a.Az&&(decide (a.To<(ps.length:Int)-1)&&(!clkAt ps a.To&&((a.Bc==0)&&(tablesB a.At false&&((a.Bb.length:Int)==0))))) else false)))
theorem qjM {c d:Bool}:(bif c then some c else some d)=some (c || d):=by cases c<;>rfl
theorem qmg {c d:Bool}:(bif c then some true else some d)=some (c || d):=by cases c<;>rfl
theorem qnj {n:Nat} {k:Int}:qge n k=some ((k==4) || (k==5)):=by simp only [qge,qmg]
theorem qoE {c:qk} {a:qz} (h:okL qh2 c.Ai) (ha:qiw a) (hm:2≤c.Ai.length):Ev (fun n=>qeC n c a) (arcI c.Ai a):=by
  have hl:=h.len
  have e1:W64 ((c.Ai.length:Int)-1)=(c.Ai.length:Int)-1:=qcW (by omega)
  have e2:W64 ((c.Ai.length:Int)-1-1)=(c.Ai.length:Int)-2:=by rw [qap (by omega) (by omega)];omega
  simp only [qeC,qnj,jd,qdS,qcv,qa8,e1,e2,qcL,qjM,bne]
  unfold arcI
  refine Ev.iff (fun _=>Ev.last ?_) (fun _=>Ev.guardB ?_ (fun hb=>?_))
  · exact Ev.andP fun _=>Ev.andP fun _=>Ev.and (qhw ha.At) fun _=>Ev.bind (qoN hl) (Ev.andP fun _=>Ev.andP fun _=>Ev.andP fun _=>.done)
  · refine Ev.or (qhw ha.At) fun _=>Ev.or (qhw ha.Bb) fun _=>?_
    simp only [qaL]
    exact Ev.orBP fun _=>.done
  · have hf:0≤a.Az∧a.Az≤(c.Ai.length:Int)-2:=by
      simp only [jf,qb7] at hb
      exact hb.2.2.2
    simp only [qjm hf.1 (show a.Az<(c.Ai.length:Int) by omega),jd]
    exact Ev.iff (fun _=>Ev.andP fun _=>.done) (fun _=>Ev.iff (fun _=>Ev.andP fun _=>.done) (fun _=>.done))
theorem qn3 {c:qk} {a:qz} (h:okL qh2 c.Ai) (ha:qiw a) (hm:2≤c.Ai.length):Ev (fun n=>qgZ n c a) (arcS c.Ai a):=by
  have hl:=h.len
  have e1:W64 ((c.Ai.length:Int)-1)=(c.Ai.length:Int)-1:=qcW (by omega)
  have e2:W64 ((c.Ai.length:Int)-1-1)=(c.Ai.length:Int)-2:=by rw [qap (by omega) (by omega)];omega
  simp only [qgZ,jd,e1,e2,qdj,qjM]
  unfold arcS
  refine Ev.guardB ?_ (fun hb=>?_)
  · simp only [qaL]
    exact Ev.orBP fun _=>.done
  · have hf:(0≤a.Az∧a.Az≤(c.Ai.length:Int)-2)∧(0≤a.To∧a.To≤(c.Ai.length:Int)-1):=by
      simp only [jf,qb7] at hb
      exact hb
    simp only [qjm hf.1.1 (show a.Az<(c.Ai.length:Int) by omega),qjm hf.2.1 (show a.To<(c.Ai.length:Int) by omega),jd]
    refine Ev.iff (fun _=>?_) (fun _=>Ev.iff (fun _=>?_) (fun _=>Ev.iff (fun _=>?_) (fun _=>.done)))
    · exact Ev.andP fun _=>Ev.andP fun _=>Ev.andP fun _=>Ev.and (qe0 ha.At) fun _=>Ev.last (qe0 ha.Bb)
    · exact Ev.andP fun _=>Ev.andP fun _=>Ev.andP fun _=>Ev.and (qe0 ha.At) fun _=>Ev.last (qe0 ha.Bb)
    · exact Ev.andP fun _=>Ev.andP fun _=>Ev.andP fun _=>Ev.andP fun _=>Ev.and (qe0 ha.At) fun _=>.done
theorem qjl {ps:List qF} (h1:clkN ps ps.length≤1) {x:Int} (hx:0≤x):clkIx ps=x↔x<ps.length∧clkAt ps x=true:=by
  unfold clkIx ixL
  cases hf:ps.findIdx? (fun p=>p.Ba) with
  | some j =>
    obtain ⟨hj,hp,_⟩:=List.findIdx?_eq_some_iff_getElem.1 hf
    have hpj:(gt ps j).Ba=true:=by rw [qiq hj];exact hp
    constructor
    · intro e
      have e:(j:Int)=x:=e
      subst e
      exact ⟨by omega,by unfold clkAt;rw [jz];exact hpj⟩
    · rintro ⟨hl,hc⟩
      have:=qom h1 hj (show x.toNat<ps.length by omega) hpj hc
      show (j:Int)=x
      omega
  | none =>
    have hn:=List.findIdx?_eq_none_iff.1 hf
    constructor
    · intro e
      have e:(-1:Int)=x:=e
      omega
    · rintro ⟨hl,hc⟩
      have hxl:x.toNat<ps.length:=by omega
      unfold clkAt at hc
      rw [qiq hxl] at hc
      have:=hn _ (jq hxl)
      rw [hc] at this
      exact absurd this (by decide)
theorem qgE {ps:List qF} (h:pinsB ps=true):(2≤ps.length∧ps.length≤5)∧clkAt ps ((ps.length:Int)-1)=false:=by
  unfold pinsB lenB at h
  simp only [jf,decide_eq_true_eq] at h
  refine ⟨h.2.1,?_⟩
  have h1:=qaI.1 h.1 (ps.length-1) (by omega)
  unfold pinB at h1
  rw [show decide (ps.length-1+1=ps.length)=true by simp;omega] at h1
  simp only [cond_true,jf,jw] at h1
  unfold clkAt
  rw [show ((ps.length:Int)-1).toNat=ps.length-1 by omega]
  exact h1.2.2
theorem qqa {ps:List qF} {a:qz} (h:pinsB ps=true) (h1:clkN ps ps.length≤1):arcI ps a=arcS ps a:=by
  obtain ⟨⟨hm,hm5⟩,hlast⟩:=qgE h
  rw [jh]
  unfold arcI arcS
  cases h45:((a.Ar==4) || (a.Ar==5)) with
  | true =>
    have k1:(a.Ar==1)=false:=by simp at h45 ⊢;omega
    have k23:((a.Ar==2) || (a.Ar==3))=false:=by simp at h45 ⊢;omega
    rw [k1,k23]
    simp only [cond_true,cond_false,jf,qb7,decide_eq_true_eq,beq_iff_eq,jw,beq_eq_false_iff_ne,ne_eq]
    constructor
    · rintro ⟨hs,hsl,hd,hf,hf0,ht,hne⟩
      obtain ⟨hl,hc⟩:=(qjl h1 hf0).1 hf.symm
      have hfl:a.Az ≠ (ps.length:Int)-1:=by intro e;rw [e,hlast] at hc;cases hc
      refine ⟨⟨⟨hf0,by omega⟩,⟨ht.1,by omega⟩⟩,hc,by omega,?_,hs,hd,hsl⟩
      cases hct:clkAt ps a.To with
      | false=>rfl
      | true =>
        have:=(qjl h1 ht.1).2 ⟨by omega,hct⟩
        omega
    · rintro ⟨⟨hf,ht⟩,hc,hlt,hct,hs,hd,hsl⟩
      have:=(qjl h1 hf.1).2 ⟨by omega,hc⟩
      refine ⟨hs,hsl,hd,this.symm,hf.1,⟨ht.1,by omega⟩,?_⟩
      intro e
      rw [e,hc] at hct
      cases hct
  | false =>
    simp only [cond_false,jf,qb7,beq_iff_eq]
    cases (a.Ar==1)
    · cases ((a.Ar==2) || (a.Ar==3))
      · simp
      · simp only [cond_true,cond_false,jf,beq_iff_eq]
        constructor
        · rintro ⟨⟨h1,h2,h3,h4⟩,h5,h6⟩
          exact ⟨⟨h4,by omega⟩,h5,h3,h6,h1,h2⟩
        · rintro ⟨⟨h4,h7⟩,h5,h3,h6,h1,h2⟩
          exact ⟨⟨h1,h2,h3,h4⟩,h5,h6⟩
    · simp only [cond_true,jf,qb7,jw,beq_iff_eq]
      constructor
      · rintro ⟨⟨h1,h2,h3,h4⟩,h5,h6⟩
        exact ⟨⟨h4,by omega⟩,h5,h3,h6,h1,h2⟩
      · rintro ⟨⟨h4,h7⟩,h5,h3,h6,h1,h2⟩
        exact ⟨⟨h1,h2,h3,h4⟩,h5,h6⟩
theorem qnH {ps:List qF} {a:qz} (h:arcS ps a=true):1≤a.Ar∧a.Ar≤5:=by
  unfold arcS at h
  rw [jf] at h
  have h:=h.2
  cases h1:(a.Ar==1)
  · cases h2:((a.Ar==2) || (a.Ar==3))
    · cases h4:((a.Ar==4) || (a.Ar==5))
      · rw [h1,h2,h4] at h;cases h
      · simp at h4;omega
    · simp at h2;omega
  · simp at h1;omega
def sameArc (x y:qz):Bool:=(x.Ar==y.Ar)&&((x.Az==y.Az)&&(x.To==y.To))
def newArc (ar:List qz) (j:Nat):Bool:=allN (fun i=>!sameArc (gt ar i) (gt ar j)) j
theorem qno {c:qk} (h:okL qh2 c.Ai) (ha:okL qiw c.Ak) (hm:2≤c.Ai.length):Ev (fun n=>qdV n c) (allN (fun j=>arcI c.Ai (gt c.Ak j)&&newArc c.Ak j) c.Ak.length&&decide (c.Ak.length≤8)):=by
  have hl:=ha.len
  have h1:∀ (ar:List qz) (y:qz),ar.length≤1048576→Ev (fun n=>qL n ar y) (ar.any fun x=>sameArc x y):=by
    intro ar y hl
    unfold qL
    refine Ev.bind (b:=ixL (fun x=>sameArc x y) ar) (qfG (fin:=(ar.length:Int)) (Lf:=qv ar y) (pf:=fun n x=>qc3 n x y) (fun x _=>?_)
      (fun n=>by simp only [qv,qi (je _),cond_false])
      (fun n j x hx=>by
        have hj:=(List.getElem?_eq_some_iff.1 hx).1
        simp only [qv,qj hj,cond_true,qA hx,jd,wS j])
      (fun n=>by unfold qaj;congr 1;funext o;cases o<;>rfl)) (Ev.now (by rw [qiD]))
    unfold qc3 sameArc
    exact Ev.andP fun _=>Ev.andP fun _=>.done
  have hL:Ev (fun n=>qa7 c n 0) (bif allN (fun j=>arcI c.Ai (gt c.Ak j)&&newArc c.Ak j) c.Ak.length then .nxt (c.Ak.length:Int) else .ret false):=by
    refine qcE ?_ (fun j hj X hX=>Ev.succ ?_)
    · exact Ev.succ (by simp only [qa7,qi (je _),cond_false];exact .done)
    · simp only [qa7,qj hj,cond_true,qan hj,jd,qnE (Nat.le_of_lt hj),wS j]
      refine Ev.chk (qoE h (qhT ha hj) hm) fun _=>Ev.chkT1 ?_ (fun _=>hX)
      refine (h1 _ _ (by simp;omega)).cast ?_
      rw [qog (Nat.le_of_lt hj)];rfl
  unfold qdV
  refine Ev.bind hL ?_
  cases allN (fun j=>arcI c.Ai (gt c.Ak j)&&newArc c.Ak j) c.Ak.length
  · exact .done
  · refine Ev.now ?_
    show some (decide ((c.Ak.length:Int)≤((8:Nat):Int)))=some (true&&decide (c.Ak.length≤8))
    rw [qg0,jt]
def hasB (ar:List qz) (k:Int):Bool:=ar.any fun a=>a.Ar==k
theorem qju {c:qk} {k:Int} (hl:c.Ak.length≤1048576):Ev (fun n=>qbI n c k) (hasB c.Ak k):=by
  unfold qbI qas
  exact Ev.last (Ev.bind (b:=ixL (fun x=>x.Ar==k) c.Ak) (qfG (fin:=(c.Ak.length:Int)) (Lf:=qB c.Ak k) (pf:=fun n x=>qfV n x k) (fun x _=>.done)
      (fun n=>by simp only [qB,qi (je _),cond_false])
      (fun n j x hx=>by
        have hj:=(List.getElem?_eq_some_iff.1 hx).1
        simp only [qB,qj hj,cond_true,qA hx,jd,wS j])
      (fun n=>by unfold qaB;congr 1;funext o;cases o<;>rfl)) (Ev.now (by rw [qiD];rfl)))
def kindN (ar:List qz) (k:Nat) (j:Nat):Nat:=cntP (fun i=>(gt ar i).Ar==(k:Int)) j
theorem qlv {ar:List qz} {k:Nat}:decide (((kindN ar k ar.length:Nat):Int) > 0)=hasB ar k:=by
  rw [show decide (((kindN ar k ar.length:Nat):Int) > 0)=decide (0<kindN ar k ar.length) by simp]
  unfold kindN hasB
  rw [qoS,qoW]
theorem qmN {ar:List qz} {k:Nat}:(((kindN ar k ar.length:Nat):Int)==0) = !hasB ar k:=by
  rw [←qlv,jh];simp
theorem qmc {c:qk} (ha:okL qiw c.Ak) (hk:∀ j,j<c.Ak.length→1≤(gt c.Ak j).Ar∧(gt c.Ak j).Ar≤5):Ev (fun n=>qft n c) (vecC (fun k=>kindN c.Ak k c.Ak.length) 6):=by
  have hl:=ha.len
  have hL:Ev (fun n=>qbE c n (vecC (fun _=>0) 6) 0) (vecC (fun k=>kindN c.Ak k c.Ak.length) 6,(c.Ak.length:Int)):=by
    refine loopF (Lf:=qbE c) (S:=fun j=>vecC (fun k=>kindN c.Ak k j) 6) (len:=c.Ak.length) (fun n=>?_) (fun j hj X hX=>?_)
    · simp only [qbE,qi (je _),cond_false]
    · obtain ⟨k1,k5⟩:=hk j hj
      have ek:(gt c.Ak j).Ar=(((gt c.Ak j).Ar.toNat:Nat):Int):=qje (by omega)
      have hc:kindN c.Ak (gt c.Ak j).Ar.toNat j≤j:=qe2
      simp only [qbE,qj hj,cond_true,qan hj,jd,wS j]
      rw [ek,qgG (show (gt c.Ak j).Ar.toNat<6 by omega)]
      simp only [jd]
      rw [qlD (c:=fun k=>kindN c.Ak k j) (by show kindN c.Ak _ j<_;omega)]
      have:vecC (fun i=>kindN c.Ak i j+(bif decide ((gt c.Ak j).Ar.toNat=i) then 1 else 0)) 6=vecC (fun k=>kindN c.Ak k (j+1)) 6:=by
        refine qgx (fun k _=>?_)
        show _=kindN c.Ak k j+(bif (gt c.Ak j).Ar==(k:Int) then 1 else 0)
        congr 2
        rw [jh];simp;omega
      rw [this]
      exact hX
  unfold qft
  rw [show mkS 6 (0:Int)=some (vecC (fun _=>0) 6) from qib (m:=6) (by omega)]
  simp only [jd]
  exact Ev.bind hL .done
def kindB (c:qk):Bool :=
  bif c.Ar==1 then (((clkN c.Ai c.Ai.length:Nat):Int)==0)&&(((c.Au.length:Int)==((2 ^ (c.Ai.length-1):Nat):Int))&&(c.Au.all fun x=>inI x 0 1))
  else bif c.Ar==2 then (((clkN c.Ai c.Ai.length:Nat):Int)==1)&&(((c.Au.length:Int)==0)&&(!hasB c.Ak 1&&!(hasB c.Ak 2==hasB c.Ak 3)))
  else bif c.Ar==3 then (((clkN c.Ai c.Ai.length:Nat):Int)==1)&&(((c.Au.length:Int)==0)&&(hasB c.Ak 1&&(hasB c.Ak 2&&!hasB c.Ak 3)))
  else false
theorem qnP {c:qk} (h:kindB c=true):clkN c.Ai c.Ai.length≤1:=by
  unfold kindB at h
  cases h1:(c.Ar==1)
  · cases h2:(c.Ar==2)
    · cases h3:(c.Ar==3)
      · rw [h1,h2,h3] at h;cases h
      · rw [h1,h2,h3] at h
        simp only [cond_true,cond_false,jf,beq_iff_eq] at h
        omega
    · rw [h1,h2] at h
      simp only [cond_true,cond_false,jf,beq_iff_eq] at h
      omega
  · rw [h1] at h
    simp only [cond_true,jf,beq_iff_eq] at h
    omega
theorem qmk {m:Nat} (h1:2≤m) (h2:m≤5):shlS 1 (W64 ((m:Int)-1))=some ((2 ^ (m-1):Nat):Int)∧shlS 1 (IntKind.wrap .u64 (W64 ((m:Int)-1)))=some ((2 ^ (m-1):Nat):Int):=by
  have:m=2∨m=3∨m=4∨m=5:=by omega
  rcases this with rfl|rfl|rfl|rfl<;>exact ⟨by decide,by decide⟩
theorem qmL {c:qk} (hc:qh5 c) (hm:2≤c.Ai.length) (hm5:c.Ai.length≤5):Ev (fun n=>qdw n c) (kindB c):=by
  have hl:=hc.Ai.len
  have hL:Ev (fun n=>qak c n 0 0) (((clkN c.Ai c.Ai.length:Nat):Int),(c.Ai.length:Int)):=by
    refine loopF (Lf:=qak c) (S:=fun j=>((clkN c.Ai j:Nat):Int)) (len:=c.Ai.length) (fun n=>?_) (fun j hj X hX=>?_)
    · simp only [qak,qi (je _),cond_false]
    · have hn:clkN c.Ai j≤j:=qe2
      simp only [qak,qj hj,cond_true,qan hj,jd,wS j,qdp (show clkN c.Ai j<9223372036854775807 by omega)]
      have hck:clkN c.Ai (j+1)=clkN c.Ai j+(bif (gt c.Ai j).Ba then 1 else 0):=rfl
      rw [hck] at hX
      cases hc:(gt c.Ai j).Ba
      · rw [hc] at hX;exact Ev.ff rfl hX
      · rw [hc] at hX;exact Ev.tt rfl hX
  unfold qdw kindB
  refine Ev.bind hL ?_
  simp only [qcv,qa8,jd,(qmk hm hm5).1]
  have hal:=hc.Ak.len
  refine Ev.iff (fun _=>?_) (fun _=>Ev.iff (fun _=>?_) (fun _=>Ev.iff (fun _=>?_) (fun _=>.done)))
  · exact Ev.andP fun _=>Ev.andP fun _=>Ev.last (qdu hc.Au.len)
  · exact Ev.andP fun _=>Ev.andP fun _=>Ev.bind (qju hal) (Ev.andP fun _=>Ev.bind (qju hal) (Ev.bind (qju hal) .done))
  · exact Ev.andP fun _=>Ev.andP fun _=>Ev.and (qju hal) fun _=>Ev.and (qju hal) fun _=>Ev.bind (qju hal) .done
def cellB (c:qk):Bool :=
  nameB c.Am&&(pinsB c.Ai&&((allN (fun j=>arcI c.Ai (gt c.Ak j)&&newArc c.Ak j) c.Ak.length&&decide (c.Ak.length≤8))&&(inI c.Bl 0 100000&&(inI c.Bf 0 100000&&kindB c))))
theorem qnT {c:qk} (hc:qh5 c):Ev (fun n=>qgX n c) (cellB c):=by
  simp only [qgX,qlj hc.Am,qcL,jd]
  unfold cellB
  refine Ev.andP fun _=>Ev.and (qni hc.Ai) fun hp=>?_
  obtain ⟨⟨hm,hm5⟩,_⟩:=qgE hp
  exact Ev.and (qno hc.Ai hc.Ak hm) fun _=>Ev.andP fun _=>Ev.andP fun _=>Ev.last (qmL hc hm hm5)
theorem qm6 {c:qk} (hc:qh5 c):Ev (fun n=>qgQ n c) (cellB c):=by
  have hal:=hc.Ak.len
  have htl:=hc.Au.len
  have e:cellB c=((pinsB c.Ai&&(nameB c.Am&&(decide (c.Ak.length≤8)&&(inI c.Bl 0 100000&&inI c.Bf 0 100000))))&&(allN (fun j=>arcS c.Ai (gt c.Ak j)&&newArc c.Ak j) c.Ak.length&&kindB c)):=by
    unfold cellB
    cases hk:kindB c
    · simp
    · cases hp:pinsB c.Ai
      · simp
      · rw [qeK (fun j _=>by rw [qqa hp (qnP hk)])]
        cases nameB c.Am<;>cases allN (fun j=>arcS c.Ai (gt c.Ak j)&&newArc c.Ak j) c.Ak.length<;>cases decide (c.Ak.length≤8)<;>cases inI c.Bl 0 100000<;>cases inI c.Bf 0 100000<;>rfl
  rw [e]
  unfold qgQ
  refine Ev.bind (qnk hc.Ai) ?_
  cases hp:pinsB c.Ai
  · exact .done
  · obtain ⟨⟨hm,hm5⟩,_⟩:=qgE hp
    simp only [cond_true,jt,Bool.not_true,cond_false]
    refine Ev.guardB ?_ (fun _=>?_)
    · simp only [qdj,jd,qaL]
      refine Ev.orB (qiA hc.Am) fun _=>?_
      rw [show decide ((c.Ak.length:Int) > 8) = !decide (c.Ak.length≤8) by rw [jh];simp;omega,qaL]
      exact Ev.orBP fun _=>Ev.orBP fun _=>.done
    · have hL2:∀ j,j<c.Ak.length→Ev (fun n=>qbM c (j:Int) (gt c.Ak j) n 0) (bif newArc c.Ak j then .nxt (j:Int) else .ret false):=by
        intro j hj
        refine qcE ?_ (fun i hi X hX=>Ev.succ ?_)
        · exact Ev.succ (by simp only [qbM,qi (je _),cond_false];exact .done)
        · simp only [qbM,qj hi,cond_true,qan (show i<c.Ak.length by omega),jd,wS i]
          unfold sameArc
          cases ((gt c.Ak i).Ar==(gt c.Ak j).Ar)
          · exact hX
          · cases ((gt c.Ak i).Az==(gt c.Ak j).Az)
            · exact hX
            · cases ((gt c.Ak i).To==(gt c.Ak j).To)
              · exact hX
              · exact .done
      have hL1:Ev (fun n=>qdh c n 0) (bif allN (fun j=>arcS c.Ai (gt c.Ak j)&&newArc c.Ak j) c.Ak.length then .nxt (c.Ak.length:Int) else .ret false):=by
        refine qcE ?_ (fun j hj X hX=>Ev.succ ?_)
        · exact Ev.succ (by simp only [qdh,qi (je _),cond_false];exact .done)
        · simp only [qdh,qj hj,cond_true,qan hj,jd,wS j]
          refine Ev.chk (qn3 hc.Ai (qhT hc.Ak hj) hm) fun _=>Ev.bind (hL2 j hj) ?_
          cases newArc c.Ak j
          · exact .done
          · exact hX
      have hL3:Ev (fun n=>qdb c n 0) (bif (c.Au.all fun x=>inI x 0 1) then .nxt (c.Au.length:Int) else .ret false) :=
        qja (fun n=>by simp only [qdb,qi (je _),cond_false]) (fun j hj X hX=>by
          simp only [qdb,qj hj,cond_true,qfm hj,jd,qdj,wS j,qaL]
          exact Ev.okP1 fun _=>hX)
      refine Ev.bind hL1 ?_
      cases hA:allN (fun j=>arcS c.Ai (gt c.Ak j)&&newArc c.Ak j) c.Ak.length
      · exact .done
      · have hk:∀ j,j<c.Ak.length→1≤(gt c.Ak j).Ar∧(gt c.Ak j).Ar≤5:=fun j hj=>by
          have:=qaI.1 hA j hj
          rw [jf] at this
          exact qnH this.1
        simp only [cond_true,jt]
        refine Ev.bind (qmc hc.Ak hk) ?_
        simp only [(qmk hm hm5).2,jd,
          show idx (vecC (fun k=>kindN c.Ak k c.Ak.length) 6) (1:Int)=some ((kindN c.Ak 1 c.Ak.length:Nat):Int) from qgG (k:=1) (by omega),
          show idx (vecC (fun k=>kindN c.Ak k c.Ak.length) 6) (2:Int)=some ((kindN c.Ak 2 c.Ak.length:Nat):Int) from qgG (k:=2) (by omega),
          show idx (vecC (fun k=>kindN c.Ak k c.Ak.length) 6) (3:Int)=some ((kindN c.Ak 3 c.Ak.length:Nat):Int) from qgG (k:=3) (by omega),qlv,qmN]
        unfold kindB
        refine Ev.iff (fun _=>?_) (fun _=>Ev.iff (fun _=>?_) (fun _=>Ev.iff (fun _=>?_) (fun _=>.done)))
        · refine Ev.bind hL3 ?_
          cases (c.Au.all fun x=>inI x 0 1)
          · exact Ev.now (by simp)
          · exact (Ev.andP (fun _=>.done)).cast (by rw [Bool.and_true])
        · refine (Ev.andP fun _=>Ev.andP fun _=>Ev.andP fun _=>.done).cast ?_
          cases (((clkN c.Ai c.Ai.length:Nat):Int)==1)<;>cases ((c.Au.length:Int)==0)<;>cases hasB c.Ak ((1:Nat):Int)<;>cases hasB c.Ak ((2:Nat):Int)<;>cases hasB c.Ak ((3:Nat):Int)<;>rfl
        · refine (Ev.andP fun _=>Ev.andP fun _=>Ev.andP fun _=>Ev.andP fun _=>.done).cast ?_
          cases (((clkN c.Ai c.Ai.length:Nat):Int)==1)<;>cases ((c.Au.length:Int)==0)<;>cases hasB c.Ak ((1:Nat):Int)<;>cases hasB c.Ak ((2:Nat):Int)<;>cases hasB c.Ak ((3:Nat):Int)<;>rfl
def libB (l:qn):Bool:=l.Aj.all cellB&&(decide (l.Aj.length≤8)&&namesB (l.Aj.map qk.Am))
theorem qlU {l:qn} (h:qeL l):Ev (fun n=>qeX n l) (libB l):=by
  have hl:=h.Aj.len
  have hL:Ev (fun n=>qbe l n ([]:List ByteArray) 0) (bif allN (fun j=>cellB (gt l.Aj j)) l.Aj.length then .nxt (l.Aj.map qk.Am,(l.Aj.length:Int)) else .ret false):=by
    refine loopN (Lf:=qbe l) (S:=fun j=>(l.Aj.take j).map qk.Am) (fun j=>cellB (gt l.Aj j)) (fun n=>?_) (fun j hj hp X hX=>?_)
    · simp only [qbe,qi (je _),cond_false,List.take_length]
    · simp only [qbe,qj hj,cond_true,qan hj,jd,qg7 hj hl,qd6 (g:=qk.Am) hj,wS j]
      exact Ev.chk1 (qnT (qhT h.Aj hj)) hX
  unfold qeX libB
  rw [qfX]
  refine Ev.bind hL ?_
  cases allN (fun j=>cellB (gt l.Aj j)) l.Aj.length
  · exact .done
  · simp only [cond_true,jt,show decide ((l.Aj.length:Int)≤8)=decide (l.Aj.length≤8) from qg0 (k:=8)]
    exact Ev.andP fun _=>Ev.last (qfO (qh6 h.Aj (fun x hx=>hx.Am)))
end Go.Fw


namespace Go.Fw
open Go
set_option maxRecDepth 100000
theorem qnf {c:qk} (h:cellB c=true):nameB c.Am=true:=by
 unfold cellB at h;rw [jf] at h;exact h.1
theorem qkL {c:qk} (h:cellB c=true):pinsB c.Ai=true:=by
 unfold cellB at h;simp only [jf] at h;exact h.2.1
theorem qk2 {l:qn} (h:qeL l):Ev (fun n=>qe9 n l) (libB l):=by
 have hl:=h.Aj.len
 have hL2:∀ j,j<l.Aj.length→Ev (fun n=>qbQ l (j:Int) n 0) (bif allN (neB (l.Aj.map qk.Am) j) j then .nxt (j:Int) else .ret false):=by
  intro j hj
  refine qcE ?_ (fun i hi X hX=>Ev.succ ?_)
  ·exact Ev.succ (by simp only [qbQ,qi (je _),cond_false];exact .done)
  ·simp only [qbQ,qj hi,cond_true,qan (show i<l.Aj.length by omega),qan hj,jd,qex,wS i]
   unfold neB
   rw [qgo (g:=qk.Am) (show i<l.Aj.length by omega),qgo (g:=qk.Am) hj]
   exact Ev.chkP1 (fun _=>hX)
 have hL1:Ev (fun n=>qbU l n 0) (bif allN (fun j=>cellB (gt l.Aj j)&&allN (neB (l.Aj.map qk.Am) j) j) l.Aj.length then .nxt (l.Aj.length:Int) else .ret false):=by
  refine qcE ?_ (fun j hj X hX=>Ev.succ ?_)
  ·exact Ev.succ (by simp only [qbU,qi (je _),cond_false];exact .done)
  ·simp only [qbU,qj hj,cond_true,qan hj,jd,wS j]
   refine Ev.chk (qm6 (qhT h.Aj hj)) fun _=>Ev.bind (hL2 j hj) ?_
   cases allN (neB (l.Aj.map qk.Am) j) j
   ·exact .done
   ·exact hX
 have e:libB l=(allN (fun j=>cellB (gt l.Aj j)&&allN (neB (l.Aj.map qk.Am) j) j) l.Aj.length&&decide (l.Aj.length≤8)):=by
  unfold libB namesB
  rw [qfX,List.length_map,Bool.and_comm (decide (l.Aj.length≤8)),←Bool.and_assoc,←qha]
  congr 1
  refine qeK (fun j hj=>?_)
  rw [qgo (g:=qk.Am) hj]
  cases hc:cellB (gt l.Aj j)
  ·rfl
  ·rw [qnf hc];rfl
 rw [e]
 unfold qe9
 refine Ev.bind hL1 ?_
 cases allN (fun j=>cellB (gt l.Aj j)&&allN (neB (l.Aj.map qk.Am) j) j) l.Aj.length
 ·exact .done
 ·refine Ev.now ?_
  show some (decide ((l.Aj.length:Int)≤((8:Nat):Int)))=some (true&&decide (l.Aj.length≤8))
  rw [qg0,jt]
theorem qg8 {c c':Nat→Nat} {m:Nat} {x:Int} (h0:0≤x) (h1:x<m) (hc:c x.toNat<9223372036854775807) (he:∀ k,k<m→c' k=c k+(bif x==(k:Int) then 1 else 0)) :
  idx (vecC c m) x=some (c x.toNat:Int)∧setS (vecC c m) x (W64 ((c x.toNat:Int)+1))=vecC c' m:=by
 have ex:x=(x.toNat:Int):=qje h0
 have e1:=qgG (c:=c) (m:=m) (k:=x.toNat) (by omega)
 have e2:=qlD (c:=c) (m:=m) (k:=x.toNat) hc
 rw [←ex] at e1 e2
 refine ⟨e1,e2.trans (qgx (fun k hk=>?_))⟩
 rw [he k hk]
 congr 2
 rw [jh];simp;omega
def netB (d:qd) (x:Int):Bool:=inI x 0 ((d.Ac.length:Int)-1)
theorem qkH {n:Nat} {d:qd} {x:Int} (hl:d.Ac.length≤1048576):qaV n d x=some (netB d x):=by
 simp only [qaV,qeM,jd,qcL,qcW (show d.Ac.length≤9223372036854775807 by omega)];rfl
theorem qjp {n:Nat} {d:qd} {x:Int} (hl:d.Ac.length≤1048576):qP n x 0 (W64 ((d.Ac.length:Int)-1))=some (netB d x):=by
 rw [qdj,qcW (show d.Ac.length≤9223372036854775807 by omega)];rfl
def hasNamesB (d:qd):Bool:=(decide (d.Aa.length≤14)&&(decide (d.Ac.length≤30)&&decide (d.Af.length≤8)))&&(namesB (d.Aa.map qc.Am)&&(namesB d.Ac&&namesB (d.Af.map qu.Am)))
theorem qmd {d:qd} (h:qgm d):Ev (fun n=>qcO n d) (hasNamesB d):=by
 have hli:=h.Aa.len
 have hlp:=h.Af.len
 have hL1:Ev (fun n=>qao d n ([]:List ByteArray) 0) (d.Aa.map qc.Am,(d.Aa.length:Int)):=by
  refine loopF (Lf:=qao d) (S:=fun j=>(d.Aa.take j).map qc.Am) (len:=d.Aa.length) (fun n=>?_) (fun j hj X hX=>?_)
  ·simp only [qao,qi (je _),cond_false,List.take_length]
  ·simpa only [qao,qj hj,cond_true,qan hj,jd,qg7 hj hli,qd6 (g:=qc.Am) hj,wS j] using hX
 have hL2:Ev (fun n=>qar d n ([]:List ByteArray) 0) (d.Af.map qu.Am,(d.Af.length:Int)):=by
  refine loopF (Lf:=qar d) (S:=fun j=>(d.Af.take j).map qu.Am) (len:=d.Af.length) (fun n=>?_) (fun j hj X hX=>?_)
  ·simp only [qar,qi (je _),cond_false,List.take_length]
  ·simpa only [qar,qj hj,cond_true,qan hj,jd,qg7 hj hlp,qd6 (g:=qu.Am) hj,wS j] using hX
 unfold qcO hasNamesB
 refine Ev.bind hL1 (Ev.bind hL2 ?_)
 simp only [List.length_map]
 rw [show decide ((d.Aa.length:Int)≤14)=decide (d.Aa.length≤14) from qg0 (k:=14),show decide ((d.Ac.length:Int)≤30)=decide (d.Ac.length≤30) from qg0 (k:=30),show decide ((d.Af.length:Int)≤8)=decide (d.Af.length≤8) from qg0 (k:=8)]
 rw [Bool.and_assoc,Bool.and_assoc]
 exact Ev.andP fun _=>Ev.andP fun _=>Ev.andP fun _=>Ev.and (qfO (qh6 h.Aa (fun x hx=>hx.Am))) fun _=>Ev.and (qfO h.Ac) fun _=>Ev.last (qfO (qh6 h.Af (fun x hx=>hx.Am)))
def instB (l:qn) (d:qd) (x:qc):Bool:=inI x.Bj 0 ((l.Aj.length:Int)-1)&&(((x.Ac.length:Int)==((gt l.Aj x.Bj.toNat).Ai.length:Int))&&x.Ac.all (netB d))
theorem qli {d:qd} {l:qn} {x:qc} (hn:d.Ac.length≤1048576) (hc:l.Aj.length≤1048576) (hx:x.Ac.length≤1048576):Ev (fun n=>qb5 n d l x) (instB l d x):=by
 simp only [qb5,qdR,jd,qcL,qcW (show l.Aj.length≤9223372036854775807 by omega)]
 unfold instB
 refine Ev.andP fun hI=>?_
 rw [qb7] at hI
 rw [qjm hI.1 (by omega)]
 simp only [jd]
 refine Ev.andP fun _=>Ev.bind (b:=x.Ac.any fun y=>!netB d y) ?_ (Ev.now (by rw [qkh]))
 unfold qY
 exact Ev.bind (b:=ixL (fun y=>!netB d y) x.Ac) (qfG (fin:=(x.Ac.length:Int)) (Lf:=qt x.Ac d) (pf:=fun n y=>qbH n y d) (fun y _=>⟨0,fun n _=>by simp only [qbH,qkH hn,jd]⟩)
   (fun n=>by simp only [qt,qi (je _),cond_false])
   (fun n j y hx=>by
    have hj:=(List.getElem?_eq_some_iff.1 hx).1
    simp only [qt,qj hj,cond_true,qA hx,jd,wS j])
   (fun n=>by unfold qaf;congr 1;funext o;cases o<;>rfl)) (Ev.now (by rw [qiD]))
def portB (d:qd) (p:qu):Bool:=inI p.Bh 1 2&&netB d p.Bk
theorem qqg {x:Int}:inI x 1 2=((x==1) || (x==2)):=by
 unfold inI;rw [jh];simp;omega
def lastN (x:qc):Int:=at0 x.Ac (x.Ac.length-1)
theorem qmn {x:qc} (h1:1≤x.Ac.length) (h2:x.Ac.length≤1048576):idx x.Ac (W64 ((x.Ac.length:Int)-1))=some (lastN x):=by
 rw [qcW (by omega),show ((x.Ac.length:Int)-1)=((x.Ac.length-1:Nat):Int) by omega,qcZ (by omega)];rfl
theorem qn6 {d:qd} {x:qc} (h1:1≤x.Ac.length) (h:x.Ac.all (netB d)=true):0≤lastN x∧lastN x<d.Ac.length:=by
 rw [qgp (d:=0),qaI] at h
 have:=h (x.Ac.length-1) (by omega)
 unfold netB at this
 rw [qb7] at this
 unfold lastN at0
 omega
theorem qkv {l:qn} {d:qd} {x:qc} (hl:libB l=true) (h:instB l d x=true):1≤x.Ac.length∧0≤lastN x∧lastN x<d.Ac.length:=by
 unfold instB at h
 simp only [jf,qb7,beq_iff_eq] at h
 obtain ⟨h1,h2,h3⟩:=h
 unfold libB at hl
 simp only [jf] at hl
 have hc:=hl.1
 rw [qfX,qaI] at hc
 have:=qgE (qkL (hc x.Bj.toNat (by omega)))
 have h4:1≤x.Ac.length:=by omega
 exact ⟨h4,qn6 h4 h3⟩
def drvI (d:qd) (k j:Nat):Nat:=cntP (fun i=>lastN (gt d.Aa i)==(k:Int)) j
def drvP (d:qd) (k j:Nat):Nat:=cntP (fun i=>((gt d.Af i).Bh==1)&&((gt d.Af i).Bk==(k:Int))) j
def drvB (d:qd):Bool:=allN (fun k=>((drvI d k d.Aa.length+drvP d k d.Af.length:Nat):Int)==1) d.Ac.length
def designB (l:qn) (d:qd):Bool:=(libB l&&hasNamesB d)&&(d.Aa.all (instB l d)&&(d.Af.all (portB d)&&drvB d))
theorem qlz {d:qd} {k j:Nat}:drvI d k (j+1)=drvI d k j+(bif lastN (gt d.Aa j)==(k:Int) then 1 else 0):=rfl
theorem qia {d:qd} {k j:Nat}:drvP d k (j+1)=drvP d k j+(bif ((gt d.Af j).Bh==1)&&((gt d.Af j).Bk==(k:Int)) then 1 else 0):=rfl
theorem qmm {l:qn} {d:qd} (h:qeL l) (hd:qgm d):Ev (fun n=>qfA n l d) (designB l d):=by
 have hli:=hd.Aa.len
 have hlp:=hd.Af.len
 have hln:=hd.Ac.len
 have hlc:=h.Aj.len
 unfold qfA designB
 refine Ev.guardB (Ev.or (qlU h) fun _=>Ev.neg (qmd hd)) fun hb=>?_
 rw [jf] at hb
 rw [qib (m:=d.Ac.length) (by omega)]
 simp only [jd]
 have hL1:Ev (fun n=>qbF l d n (vecC (fun _=>0) d.Ac.length) 0) (bif allN (fun j=>instB l d (gt d.Aa j)) d.Aa.length then .nxt (vecC (fun k=>drvI d k d.Aa.length) d.Ac.length,(d.Aa.length:Int)) else .ret false):=by
  refine loopN (Lf:=qbF l d) (S:=fun j=>vecC (fun k=>drvI d k j) d.Ac.length) (fun j=>instB l d (gt d.Aa j)) (fun n=>?_) (fun j hj hp X hX=>?_)
  ·simp only [qbF,qi (je _),cond_false]
  ·simp only [qbF,qj hj,cond_true,qan hj,jd,wS j]
   have hxl:=(qhT hd.Aa hj).Ac.len
   refine Ev.chk1 (qli hln hlc hxl) fun hi=>?_
   obtain ⟨h1,h2,h3⟩:=qkv hb.1 hi
   have hc:drvI d (lastN (gt d.Aa j)).toNat j≤j:=qe2
   obtain ⟨e1,e2⟩:=qg8 (c:=fun k=>drvI d k j) (c':=fun k=>drvI d k (j+1)) h2 h3 (by show drvI _ _ _<_;omega) (fun k _=>qlz)
   simp only [qmn h1 hxl,jd,e1,e2]
   exact hX hi
 have hL2:Ev (fun n=>qa4 d n (vecC (fun k=>drvI d k d.Aa.length) d.Ac.length) 0) (bif allN (fun j=>portB d (gt d.Af j)) d.Af.length then .nxt (vecC (fun k=>drvI d k d.Aa.length+drvP d k d.Af.length) d.Ac.length,(d.Af.length:Int)) else .ret false):=by
  refine loopN (Lf:=qa4 d) (S:=fun j=>vecC (fun k=>drvI d k d.Aa.length+drvP d k j) d.Ac.length) (fun j=>portB d (gt d.Af j)) (fun n=>?_) (fun j hj hp X hX=>?_)
  ·simp only [qa4,qi (je _),cond_false]
  ·simp only [qa4,qj hj,cond_true,qan hj,jd,qkH hln,bne,wS j]
   refine Ev.chkT1 ?_ fun hi=>?_
   ·unfold portB
    rw [qqg]
    cases ((gt d.Af j).Bh==1)<;>cases ((gt d.Af j).Bh==2)<;>exact .done
   ·have hX:=hX hi
    unfold portB netB at hi
    simp only [jf,qb7] at hi
    have hc1:drvI d (gt d.Af j).Bk.toNat d.Aa.length≤d.Aa.length:=qe2
    have hc2:drvP d (gt d.Af j).Bk.toNat j≤j:=qe2
    cases h1:((gt d.Af j).Bh==1)
    ·have:vecC (fun k=>drvI d k d.Aa.length+drvP d k (j+1)) d.Ac.length=vecC (fun k=>drvI d k d.Aa.length+drvP d k j) d.Ac.length:=by
      refine qgx (fun k _=>?_)
      rw [qia,h1];rfl
     rw [this] at hX
     exact hX
    ·obtain ⟨e1,e2⟩:=qg8 (c:=fun k=>drvI d k d.Aa.length+drvP d k j) (c':=fun k=>drvI d k d.Aa.length+drvP d k (j+1)) (x:=(gt d.Af j).Bk) (m:=d.Ac.length) hi.2.1 (by omega) (by show drvI _ _ _+drvP _ _ _<_;omega) (fun k _=>by rw [qia,h1,jt];omega)
     simp only [cond_true,jd,e1,e2]
     exact hX
 rw [qfX,qfX]
 refine Ev.bind hL1 ?_
 cases allN (fun j=>instB l d (gt d.Aa j)) d.Aa.length
 ·exact .done
 ·refine Ev.bind hL2 ?_
  cases allN (fun j=>portB d (gt d.Af j)) d.Af.length
  ·exact .done
  ·simp only [cond_true,jt]
   unfold qaJ
   refine Ev.bind (b:=(vecC (fun k=>drvI d k d.Aa.length+drvP d k d.Af.length) d.Ac.length).any fun x=>!(x==1)) (Ev.bind (b:=ixL (fun x=>!(x==1)) (vecC (fun k=>drvI d k d.Aa.length+drvP d k d.Af.length) d.Ac.length)) (qfG (fin:=(((vecC (fun k=>drvI d k d.Aa.length+drvP d k d.Af.length) d.Ac.length).length:Nat):Int)) (Lf:=qG (vecC (fun k=>drvI d k d.Aa.length+drvP d k d.Af.length) d.Ac.length)) (pf:=fun n y=>qfY n y) (fun y _=>.done)
    (fun n=>by simp only [qG,qi (je _),cond_false])
    (fun n j y hx=>by
     have hj:=(List.getElem?_eq_some_iff.1 hx).1
     have:j<d.Ac.length:=by rw [qh1] at hj;exact hj
     simp only [qG,qj hj,cond_true,qA hx,jd,wS j])
    (fun n=>by unfold qaR;congr 1;funext o;cases o<;>rfl)) (Ev.now (by rw [qiD]))) (Ev.now ?_)
   rw [qkh,qgp (d:=0),qh1]
   unfold drvB
   congr 1
   exact qeK (fun k hk=>by
    have:=qmA (c:=fun k=>drvI d k d.Aa.length+drvP d k d.Af.length) hk
    unfold at0 at this
    rw [this])
theorem qmp {l:qn} {d:qd} (h:qeL l) (hd:qgm d):Ev (fun n=>qfo n l d) (d.Aa.all (instB l d)&&d.Af.all (portB d)):=by
 have hli:=hd.Aa.len
 have hlp:=hd.Af.len
 have hln:=hd.Ac.len
 have hlc:=h.Aj.len
 have hL2:∀ x:qc,x.Ac.length≤1048576→Ev (fun n=>qck d x n 0) (bif x.Ac.all (netB d) then .nxt (x.Ac.length:Int) else .ret false):=fun x hx =>
  qja (fun n=>by simp only [qck,qi (je _),cond_false]) (fun j hj X hX=>by
   simp only [qck,qj hj,cond_true,qfm hj,jd,qjp hln,wS j,qaL]
   exact Ev.okP1 fun _=>hX)
 have hL1:Ev (fun n=>qcq l d n 0) (bif allN (fun j=>instB l d (gt d.Aa j)) d.Aa.length then .nxt (d.Aa.length:Int) else .ret false):=by
  refine qcE ?_ (fun j hj X hX=>Ev.succ ?_)
  ·exact Ev.succ (by simp only [qcq,qi (je _),cond_false];exact .done)
  ·simp only [qcq,qj hj,cond_true,qan hj,jd,qdj,qcW (show l.Aj.length≤9223372036854775807 by omega),wS j,bne]
   have hxl:=(qhT hd.Aa hj).Ac.len
   unfold instB
   rw [←Bool.and_assoc]
   refine Ev.chkT ?_ fun _=>Ev.bind (hL2 _ hxl) ?_
   ·simp only [qaL]
    refine Ev.orBP fun hI=>?_
    rw [qb7] at hI
    rw [qjm hI.1 (by omega)]
    exact .done
   ·cases (gt d.Aa j).Ac.all (netB d)
    ·exact .done
    ·exact hX
 have hL3:Ev (fun n=>qcp d n 0) (bif allN (fun j=>portB d (gt d.Af j)) d.Af.length then .nxt (d.Af.length:Int) else .ret false):=by
  refine qcE ?_ (fun j hj X hX=>Ev.succ ?_)
  ·exact Ev.succ (by simp only [qcp,qi (je _),cond_false];exact .done)
  ·simp only [qcp,qj hj,cond_true,qan hj,jd,qjp hln,wS j]
   simp only [qdj,jd,qaL]
   unfold portB
   exact Ev.okP fun _=>Ev.okP1 fun _=>hX
 unfold qfo
 rw [qfX,qfX]
 refine Ev.bind hL1 ?_
 cases allN (fun j=>instB l d (gt d.Aa j)) d.Aa.length
 ·exact .done
 ·refine Ev.bind hL3 ?_
  cases allN (fun j=>portB d (gt d.Af j)) d.Af.length<;>exact .done
theorem qlS {l:qn} {d:qd} (h:qeL l) (hd:qgm d):Ev (fun n=>qfr n l d) (designB l d):=by
 have hli:=hd.Aa.len
 have hlp:=hd.Af.len
 have hln:=hd.Ac.len
 have hlc:=h.Aj.len
 have e:designB l d=((libB l&&(decide (d.Aa.length≤14)&&(decide (d.Ac.length≤30)&&(decide (d.Af.length≤8)&&(d.Aa.all (instB l d)&&d.Af.all (portB d))))))&&((namesB (d.Aa.map qc.Am)&&(namesB (d.Af.map qu.Am)&&namesB d.Ac))&&drvB d)):=by
  unfold designB hasNamesB
  generalize libB l=a1
  generalize decide (d.Aa.length≤14)=a2
  generalize decide (d.Ac.length≤30)=a3
  generalize decide (d.Af.length≤8)=a4
  generalize d.Aa.all (instB l d)=a5
  generalize d.Af.all (portB d)=a6
  generalize namesB (d.Aa.map qc.Am)=a7
  generalize namesB (d.Af.map qu.Am)=a8
  generalize namesB d.Ac=a9
  generalize drvB d=a10
  rw [jh]
  simp only [jf]
  constructor
  ·rintro ⟨⟨h1,⟨h2,h3,h4⟩,h7,h9,h8⟩,h5,h6,h10⟩
   exact ⟨⟨h1,h2,h3,h4,h5,h6⟩,⟨h7,h8,h9⟩,h10⟩
  ·rintro ⟨⟨h1,h2,h3,h4,h5,h6⟩,⟨h7,h8,h9⟩,h10⟩
   exact ⟨⟨h1,⟨h2,h3,h4⟩,h7,h9,h8⟩,h5,h6,h10⟩
 rw [e]
 unfold qfr
 refine Ev.guardB ?_ fun hb=>?_
 ·refine Ev.or (qk2 h) fun _=>?_
  rw [show decide ((d.Aa.length:Int) > 14) = !decide (d.Aa.length≤14) by rw [jh];simp;omega,show decide ((d.Ac.length:Int) > 30) = !decide (d.Ac.length≤30) by rw [jh];simp;omega,show decide ((d.Af.length:Int) > 8) = !decide (d.Af.length≤8) by rw [jh];simp;omega]
  simp only [qaL]
  exact Ev.orBP fun _=>Ev.orBP fun _=>Ev.orBP fun _=>Ev.neg (qmp h hd)
 ·simp only [jf] at hb
  obtain ⟨hlib,_,_,_,hI,hP⟩:=hb
  rw [qfX,qaI] at hI hP
  have hL1:Ev (fun n=>qbG d n ([]:List ByteArray) 0) (d.Aa.map qc.Am,(d.Aa.length:Int)):=by
   refine loopF (Lf:=qbG d) (S:=fun j=>(d.Aa.take j).map qc.Am) (len:=d.Aa.length) (fun n=>?_) (fun j hj X hX=>?_)
   ·simp only [qbG,qi (je _),cond_false,List.take_length]
   ·simpa only [qbG,qj hj,cond_true,qan hj,jd,qg7 hj hli,qd6 (g:=qc.Am) hj,wS j] using hX
  have hL2:Ev (fun n=>qbB d n ([]:List ByteArray) 0) (d.Af.map qu.Am,(d.Af.length:Int)):=by
   refine loopF (Lf:=qbB d) (S:=fun j=>(d.Af.take j).map qu.Am) (len:=d.Af.length) (fun n=>?_) (fun j hj X hX=>?_)
   ·simp only [qbB,qi (je _),cond_false,List.take_length]
   ·simpa only [qbB,qj hj,cond_true,qan hj,jd,qg7 hj hlp,qd6 (g:=qu.Am) hj,wS j] using hX
  have hL3:Ev (fun n=>qbD d n (vecC (fun _=>0) d.Ac.length) 0) (vecC (fun k=>drvI d k d.Aa.length) d.Ac.length,(d.Aa.length:Int)):=by
   refine loopF (Lf:=qbD d) (S:=fun j=>vecC (fun k=>drvI d k j) d.Ac.length) (len:=d.Aa.length) (fun n=>?_) (fun j hj X hX=>?_)
   ·simp only [qbD,qi (je _),cond_false]
   ·have hxl:=(qhT hd.Aa hj).Ac.len
    obtain ⟨h1,h2,h3⟩:=qkv hlib (hI j hj)
    have hc:drvI d (lastN (gt d.Aa j)).toNat j≤j:=qe2
    obtain ⟨e1,e2⟩:=qg8 (c:=fun k=>drvI d k j) (c':=fun k=>drvI d k (j+1)) h2 h3 (by show drvI _ _ _<_;omega) (fun k _=>qlz)
    simpa only [qbD,qj hj,cond_true,qan hj,jd,wS j,qmn h1 hxl,e1,e2] using hX
  have hL4:Ev (fun n=>qa9 d n (vecC (fun k=>drvI d k d.Aa.length) d.Ac.length) 0) (vecC (fun k=>drvI d k d.Aa.length+drvP d k d.Af.length) d.Ac.length,(d.Af.length:Int)):=by
   refine loopF (Lf:=qa9 d) (S:=fun j=>vecC (fun k=>drvI d k d.Aa.length+drvP d k j) d.Ac.length) (len:=d.Af.length) (fun n=>?_) (fun j hj X hX=>?_)
   ·simp only [qa9,qi (je _),cond_false]
   ·have hi:=hP j hj
    unfold portB netB at hi
    simp only [jf,qb7] at hi
    have hc1:drvI d (gt d.Af j).Bk.toNat d.Aa.length≤d.Aa.length:=qe2
    have hc2:drvP d (gt d.Af j).Bk.toNat j≤j:=qe2
    simp only [qa9,qj hj,cond_true,qan hj,jd,wS j]
    cases h1:((gt d.Af j).Bh==1)
    ·have:vecC (fun k=>drvI d k d.Aa.length+drvP d k (j+1)) d.Ac.length=vecC (fun k=>drvI d k d.Aa.length+drvP d k j) d.Ac.length:=by
      refine qgx (fun k _=>?_)
      rw [qia,h1];rfl
     rw [this] at hX
     exact hX
    ·obtain ⟨e1,e2⟩:=qg8 (c:=fun k=>drvI d k d.Aa.length+drvP d k j) (c':=fun k=>drvI d k d.Aa.length+drvP d k (j+1)) (x:=(gt d.Af j).Bk) (m:=d.Ac.length) hi.2.1 (by omega) (by show drvI _ _ _+drvP _ _ _<_;omega) (fun k _=>by rw [qia,h1,jt];omega)
     simp only [cond_true,jd,e1,e2]
     exact hX
  have hL5:Ev (fun n=>qcj (vecC (fun _=>0) d.Ac.length) (vecC (fun k=>drvI d k d.Aa.length+drvP d k d.Af.length) d.Ac.length) n 0) (bif drvB d then .nxt (d.Ac.length:Int) else .ret false):=by
   refine qcE ?_ (fun j hj X hX=>Ev.succ ?_)
   ·exact Ev.succ (by simp only [qcj,qh1,qi (je _),cond_false];exact .done)
   ·simp only [qcj,qh1,qj hj,cond_true,qgG hj,jd,bne,qaL,wS j]
    exact Ev.okP1 fun _=>hX
  refine Ev.bind hL1 (Ev.bind hL2 ?_)
  refine Ev.guardB (Ev.or (qhV (qh6 hd.Aa (fun x hx=>hx.Am))) fun _=>Ev.or (qhV (qh6 hd.Af (fun x hx=>hx.Am))) fun _=>Ev.neg (qhV hd.Ac)) fun _=>?_
  rw [qib (m:=d.Ac.length) (by omega)]
  simp only [jd]
  refine Ev.bind hL3 (Ev.bind hL4 (Ev.bind hL5 ?_))
  cases drvB d<;>exact .done
end Go.Fw


namespace Go.Fw
open Go
set_option maxRecDepth 100000
theorem qpf {m k:Nat}:decide ((m:Int)<(k:Int)) = !decide (k≤m):=by rw [jh];simp
theorem qpl {m k:Nat}:decide ((m:Int) > (k:Int)) = !decide (m≤k):=by rw [jh];simp
def treeB (w:qr) (j:Nat):Bool:=bif decide (j=0) then (at0 w.Ah j==-1)&&(at0 w.Bi j==0) else inI (at0 w.Ah j) 0 ((j:Int)-1)
def wireB (w:qr) (s:Int):Bool :=
 lenB w.Ah 1 8&&(((w.Bi.length:Int)==(w.Ah.length:Int))&&(((w.Bg.length:Int)==(w.Ah.length:Int))&&(allN (treeB w) w.Ah.length &&
  ((w.Bi.all fun x=>inI x 0 1000)&&((w.Bg.all fun x=>inI x 0 500)&&(((w.Be.length:Int)==s)&&(w.Be.all fun x=>inI x 0 ((w.Ah.length:Int)-1))))))))
theorem qnV {w:qr} (hl:w.Ah.length≤1048576) (hr:((w.Bi.length:Int)==(w.Ah.length:Int))=true):Ev (fun n=>qd9 n w) (allN (treeB w) w.Ah.length):=by
 rw [beq_iff_eq] at hr
 have hL:Ev (fun n=>qam w n 0) (bif allN (treeB w) w.Ah.length then .nxt (w.Ah.length:Int) else .ret false):=by
  refine qcE ?_ (fun j hj X hX=>Ev.succ ?_)
  ·exact Ev.succ (by simp only [qam,qi (je _),cond_false];exact .done)
  ·simp only [qam,qj hj,cond_true,qcZ hj,jd,qcL,wS j,bne,qaL]
   unfold treeB
   by_cases h0:j=0
   ·subst h0
    rw [show idx w.Bi (0:Int)=some (at0 w.Bi 0) from qcZ (j:=0) (by omega)]
    simp only [jd]
    refine Ev.tt (by simp) (Ev.okP fun _=>Ev.okP1 fun _=>Ev.ff (by simp) hX)
   ·have e1:decide (j=0)=false:=by simp;omega
    have e2:((j:Int)==0)=false:=by simp;omega
    have e3:decide ((j:Int) > 0)=true:=by simp;omega
    rw [e1,e2,e3,qcW (show j≤9223372036854775807 by omega)]
    simp only [cond_false,cond_true]
    exact Ev.okP1 fun _=>hX
 unfold qd9
 refine Ev.bind hL ?_
 cases allN (treeB w) w.Ah.length<;>exact .done
theorem qnQ {w:qr} {s:Int} (h:qiR w):Ev (fun n=>qgS n w s) (wireB w s):=by
 have hl:=h.Ah.len
 simp only [qgS,qaU,jd,qcL,qcW (show w.Ah.length≤9223372036854775807 by omega)]
 unfold wireB
 rw [show inI (w.Ah.length:Int) 1 8=lenB w.Ah 1 8 from qlG (lo:=1) (hi:=8)]
 exact Ev.andP fun _=>Ev.andP fun hr=>Ev.andP fun _=>Ev.and (qnV hl hr) fun _=>Ev.and (qdu h.Bi.len) fun _=>Ev.and (qdu h.Bg.len) fun _=>Ev.andP fun _=>Ev.last (qdu h.Be.len)
theorem qnn {w:qr} {s:Int} (h:qiR w):Ev (fun n=>qgN n w s) (wireB w s):=by
 have hl:=h.Ah.len
 have hsl:=h.Be.len
 have e:wireB w s=((decide (1≤w.Ah.length)&&(decide (w.Ah.length≤8)&&(((w.Bi.length:Int)==(w.Ah.length:Int))&&(((w.Bg.length:Int)==(w.Ah.length:Int))&&((w.Be.length:Int)==s)))))&&(allN (fun j=>(inI (at0 w.Bg j) 0 500&&inI (at0 w.Bi j) 0 1000)&&treeB w j) w.Ah.length&&(w.Be.all fun x=>inI x 0 ((w.Ah.length:Int)-1)))):=by
  unfold wireB lenB
  cases h1:((w.Bi.length:Int)==(w.Ah.length:Int))
  ·simp
  ·cases h2:((w.Bg.length:Int)==(w.Ah.length:Int))
   ·simp
   ·rw [beq_iff_eq] at h1 h2
    rw [qha,qha]
    rw [qgp (p:=fun x=>inI x 0 1000) (d:=0),qgp (p:=fun x=>inI x 0 500) (d:=0),show w.Bi.length=w.Ah.length by omega,show w.Bg.length=w.Ah.length by omega]
    show _=(_&&((allN (fun j=>inI (w.Bg.getD j 0) 0 500) _&&allN (fun j=>inI (w.Bi.getD j 0) 0 1000) _&&_)&&_))
    generalize allN (fun j=>inI (w.Bg.getD j 0) 0 500) w.Ah.length=a1
    generalize allN (fun j=>inI (w.Bi.getD j 0) 0 1000) w.Ah.length=a2
    generalize allN (fun j=>treeB w j) w.Ah.length=a3
    generalize ((w.Be.length:Int)==s)=a4
    generalize decide (1≤w.Ah.length)=a5
    generalize decide (w.Ah.length≤8)=a6
    generalize (w.Be.all fun x=>inI x 0 ((w.Ah.length:Int)-1))=a7
    cases a1<;>cases a2<;>cases a3<;>cases a4<;>cases a5<;>cases a6<;>rfl
 rw [e]
 unfold qgN
 refine Ev.guardB ?_ fun hb=>?_
 ·rw [show decide ((w.Ah.length:Int)<1) = !decide (1≤w.Ah.length) from qpf (k:=1),show decide ((w.Ah.length:Int) > 8) = !decide (w.Ah.length≤8) from qpl (k:=8)]
  simp only [bne,qaL]
  exact Ev.orBP fun _=>Ev.orBP fun _=>Ev.orBP fun _=>Ev.orBP fun _=>.done
 ·simp only [jf,beq_iff_eq] at hb
  have hL1:Ev (fun n=>qbl w n 0) (bif allN (fun j=>(inI (at0 w.Bg j) 0 500&&inI (at0 w.Bi j) 0 1000)&&treeB w j) w.Ah.length then .nxt (w.Ah.length:Int) else .ret false):=by
   refine qcE ?_ (fun j hj X hX=>Ev.succ ?_)
   ·exact Ev.succ (by simp only [qbl,qi (je _),cond_false];exact .done)
   ·simp only [qbl,qj hj,cond_true,qcZ hj,qcZ (show j<w.Bg.length by omega),qcZ (show j<w.Bi.length by omega),jd,qdj,wS j,bne,qaL]
    refine Ev.chkT (Ev.orBP fun _=>.done) fun _=>?_
    unfold treeB
    by_cases h0:j=0
    ·subst h0
     refine Ev.tt (by simp) (Ev.okP fun _=>Ev.okP1 fun _=>Ev.ff (by simp) hX)
    ·have e1:decide (j=0)=false:=by simp;omega
     have e2:((j:Int)==0)=false:=by simp;omega
     have e3:decide ((j:Int) > 0)=true:=by simp;omega
     rw [e1,e2,e3,qcW (show j≤9223372036854775807 by omega)]
     simp only [cond_false,cond_true]
     exact Ev.okP1 fun _=>hX
  have hL2:Ev (fun n=>qc8 w n 0) (bif (w.Be.all fun x=>inI x 0 ((w.Ah.length:Int)-1)) then .nxt (w.Be.length:Int) else .ret false) :=
   qja (fun n=>by simp only [qc8,qi (je _),cond_false]) (fun j hj X hX=>by
    simp only [qc8,qj hj,cond_true,qfm hj,jd,qdj,qcW (show w.Ah.length≤9223372036854775807 by omega),wS j,qaL]
    exact Ev.okP1 fun _=>hX)
  refine Ev.bind hL1 ?_
  cases allN (fun j=>(inI (at0 w.Bg j) 0 500&&inI (at0 w.Bi j) 0 1000)&&treeB w j) w.Ah.length
  ·exact .done
  ·refine Ev.bind hL2 ?_
   cases (w.Be.all fun x=>inI x 0 ((w.Ah.length:Int)-1))<;>exact .done
instance:Inhabited Tplace:=⟨⟨0,0,0,false⟩⟩
instance:Inhabited Tl05Place:=⟨⟨0,0,0,false⟩⟩
def toSp (p:Tplace):Tl05Place:=⟨p.instance_,p.pin,p.net,p.drives⟩
def plX (i:Nat) (x:qc) (j:Nat):List Tplace:=(List.range j).map fun (k:Nat)=>⟨(i:Int),(k:Int),at0 x.Ac k,decide (k+1=x.Ac.length)⟩
def plI (d:qd) (j:Nat):List Tplace:=(List.range j).flatMap fun (i:Nat)=>plX i (gt d.Aa i) (gt d.Aa i).Ac.length
def plP (d:qd) (j:Nat):List Tplace:=(List.range j).map fun (i:Nat)=>⟨-1,(i:Int),(gt d.Af i).Bk,(gt d.Af i).Bh==1⟩
def places (d:qd):List Tplace:=plI d d.Aa.length++plP d d.Af.length
theorem qmK {i:Nat} {x:qc} {j:Nat}:plX i x (j+1)=plX i x j++[⟨(i:Int),(j:Int),at0 x.Ac j,decide (j+1=x.Ac.length)⟩]:=by
 unfold plX;rw [List.range_succ,jH];rfl
theorem qkR {d:qd} {j:Nat}:plI d (j+1)=plI d j++plX j (gt d.Aa j) (gt d.Aa j).Ac.length:=by
 unfold plI;rw [List.range_succ,List.flatMap_append];simp
theorem qmz {d:qd} {j:Nat}:plP d (j+1)=plP d j++[⟨-1,(j:Int),(gt d.Af j).Bk,(gt d.Af j).Bh==1⟩]:=by
 unfold plP;rw [List.range_succ,jH];rfl
theorem qlP {i:Nat} {x:qc} {j:Nat}:(plX i x j).length=j:=by simp [plX]
theorem qlH {d:qd} {j:Nat}:(plP d j).length=j:=by simp [plP]
structure smallD (d:qd):Prop where
 ni:d.Aa.length≤14
 nn:d.Ac.length≤30
 np:d.Af.length≤8
 nx:∀ i,i<d.Aa.length→2≤(gt d.Aa i).Ac.length∧(gt d.Aa i).Ac.length≤5
theorem qip {l:qn} {d:qd} (h:designB l d=true):smallD d:=by
 unfold designB hasNamesB libB at h
 simp only [jf,decide_eq_true_eq] at h
 obtain ⟨⟨⟨hc,_⟩,⟨h1,h2,h3⟩,_⟩,hI,_⟩:=h
 refine ⟨h1,h2,h3,fun i hi=>?_⟩
 rw [qfX,qaI] at hI hc
 have:=hI i hi
 unfold instB at this
 simp only [jf,qb7,beq_iff_eq] at this
 have h5:=qgE (qkL (hc (gt d.Aa i).Bj.toNat (by omega)))
 omega
theorem qiY {d:qd} (h:smallD d) {j:Nat} (hj:j≤d.Aa.length):(plI d j).length≤5*j:=by
 induction j with
 | zero=>exact je _
 | succ j ih =>
  rw [qkR,jm,qlP]
  have:=ih (by omega)
  have:=h.nx j (by omega)
  omega
theorem qks {d:qd} (h:smallD d):(places d).length≤78:=by
 unfold places
 rw [jm,qlH]
 have:=qiY h (je _)
 have:=h.ni
 have:=h.np
 omega
theorem qnX {d:qd} (h:smallD d):Ev (fun n=>qds n d) (places d):=by
 have h1:=h.ni
 have h2:=h.np
 have hL2:∀ i,i<d.Aa.length→∀ pre:List Tplace,pre.length≤100→Ev (fun n=>qaG (i:Int) (gt d.Aa i) n pre 0) (pre++plX i (gt d.Aa i) (gt d.Aa i).Ac.length,((gt d.Aa i).Ac.length:Int)):=by
  intro i hi pre hp
  have h5:=h.nx i hi
  have:=loopF (Lf:=qaG (i:Int) (gt d.Aa i)) (S:=fun j=>pre++plX i (gt d.Aa i) j) (len:=(gt d.Aa i).Ac.length) (fin:=(pre++plX i (gt d.Aa i) (gt d.Aa i).Ac.length,((gt d.Aa i).Ac.length:Int))) (fun n=>by
    simp only [qaG,qi (je _),cond_false])
   (fun j hj X hX=>by
    have hc:(pre++plX i (gt d.Aa i) j).length+[(⟨(i:Int),(j:Int),at0 (gt d.Aa i).Ac j,decide (j+1=(gt d.Aa i).Ac.length)⟩:Tplace)].length≤2147483648:=by
     rw [jm,qlP];simp;omega
    simp only [qaG,qj hj,cond_true,qcZ hj,jd,lastE hj (show (gt d.Aa i).Ac.length≤1048576 by omega),qh9 hc,jG,←qmK,wS j]
    exact hX)
  simpa [plX] using this
 have hL1:Ev (fun n=>qaE d n ([]:List Tplace) 0) (plI d d.Aa.length,(d.Aa.length:Int)):=by
  refine loopF (Lf:=qaE d) (S:=fun j=>plI d j) (len:=d.Aa.length) (fun n=>?_) (fun j hj X hX=>?_)
  ·simp only [qaE,qi (je _),cond_false]
  ·simp only [qaE,qj hj,cond_true,qan hj,jd,wS j]
   refine Ev.bind (hL2 j hj _ (by have:=qiY h (Nat.le_of_lt hj);omega)) ?_
   rw [←qkR]
   exact hX
 have hL3:Ev (fun n=>qaD d n (plI d d.Aa.length) 0) (places d,(d.Af.length:Int)):=by
  have:=loopF (Lf:=qaD d) (S:=fun j=>plI d d.Aa.length++plP d j) (len:=d.Af.length) (fin:=(places d,(d.Af.length:Int))) (fun n=>by
    simp only [qaD,qi (je _),cond_false];rfl)
   (fun j hj X hX=>by
    have hc:(plI d d.Aa.length++plP d j).length+[(⟨-1,(j:Int),(gt d.Af j).Bk,(gt d.Af j).Bh==1⟩:Tplace)].length≤2147483648:=by
     rw [jm,qlH];have:=qiY h (je _);simp;omega
    simp only [qaD,qj hj,cond_true,qan hj,jd,qh9 hc,jG,←qmz,wS j]
    exact hX)
  simpa [plP] using this
 unfold qds
 exact Ev.bind hL1 (Ev.bind hL3 .done)
theorem qng {d:qd} (h:smallD d):Ev (fun n=>qe7 n d) ((places d).map toSp):=by
 have h1:=h.ni
 have h2:=h.np
 have hL2:∀ i,i<d.Aa.length→∀ pre:List Tplace,pre.length≤100→Ev (fun n=>qbj (i:Int) (gt d.Aa i) n (pre.map toSp) 0) ((pre++plX i (gt d.Aa i) (gt d.Aa i).Ac.length).map toSp,((gt d.Aa i).Ac.length:Int)):=by
  intro i hi pre hp
  have h5:=h.nx i hi
  have:=loopF (Lf:=qbj (i:Int) (gt d.Aa i)) (S:=fun j=>(pre++plX i (gt d.Aa i) j).map toSp) (len:=(gt d.Aa i).Ac.length) (fin:=((pre++plX i (gt d.Aa i) (gt d.Aa i).Ac.length).map toSp,((gt d.Aa i).Ac.length:Int))) (fun n=>by
    simp only [qbj,qi (je _),cond_false])
   (fun j hj X hX=>by
    have hc:((pre++plX i (gt d.Aa i) j).map toSp).length+[(⟨(i:Int),(j:Int),at0 (gt d.Aa i).Ac j,decide (j+1=(gt d.Aa i).Ac.length)⟩:Tl05Place)].length≤2147483648:=by
     rw [List.length_map,jm,qlP];simp;omega
    simp only [qbj,qj hj,cond_true,qcZ hj,jd,lastE hj (show (gt d.Aa i).Ac.length≤1048576 by omega),qh9 hc,wS j]
    rw [qmK,←jG,jH] at hX
    exact hX)
  simpa [plX] using this
 have hL1:Ev (fun n=>qbg d n ([]:List Tl05Place) 0) ((plI d d.Aa.length).map toSp,(d.Aa.length:Int)):=by
  refine loopF (Lf:=qbg d) (S:=fun j=>(plI d j).map toSp) (len:=d.Aa.length) (fun n=>?_) (fun j hj X hX=>?_)
  ·simp only [qbg,qi (je _),cond_false]
  ·simp only [qbg,qj hj,cond_true,qan hj,jd,wS j]
   refine Ev.bind (hL2 j hj _ (by have:=qiY h (Nat.le_of_lt hj);omega)) ?_
   rw [←qkR]
   exact hX
 have hL3:Ev (fun n=>qbc d n ((plI d d.Aa.length).map toSp) 0) ((places d).map toSp,(d.Af.length:Int)):=by
  have:=loopF (Lf:=qbc d) (S:=fun j=>(plI d d.Aa.length++plP d j).map toSp) (len:=d.Af.length) (fin:=((places d).map toSp,(d.Af.length:Int))) (fun n=>by
    simp only [qbc,qi (je _),cond_false];rfl)
   (fun j hj X hX=>by
    have hc:((plI d d.Aa.length++plP d j).map toSp).length+[(⟨-1,(j:Int),(gt d.Af j).Bk,(gt d.Af j).Bh==1⟩:Tl05Place)].length≤2147483648:=by
     rw [List.length_map,jm,qlH];have:=qiY h (je _);simp;omega
    simp only [qbc,qj hj,cond_true,qan hj,jd,qh9 hc,wS j]
    rw [qmz,←jG,jH] at hX
    exact hX)
  simpa [plP] using this
 unfold qe7
 exact Ev.bind hL1 (Ev.bind hL3 .done)
def snkQ (d:qd) (k:Int) (i:Nat):Bool:=((gt (places d) i).net==k)&&!(gt (places d) i).drives
def sinksL (d:qd) (k:Int) (j:Nat):List Int:=((List.range j).filter (snkQ d k)).map fun (i:Nat)=>(i:Int)
def snkN (d:qd) (k:Int):Nat:=cntP (snkQ d k) (places d).length
theorem qjL {d:qd} {k:Int} {j:Nat}:sinksL d k (j+1)=sinksL d k j++(bif snkQ d k j then [(j:Int)] else []):=by
 unfold sinksL
 rw [List.range_succ,List.filter_append,jH]
 congr 1
 cases h:snkQ d k j<;>simp [h]
theorem qkN {d:qd} {k:Int} {j:Nat}:(sinksL d k j).length=cntP (snkQ d k) j:=by
 induction j with
 | zero=>rfl
 | succ j ih =>
  rw [qjL,jm,ih]
  show _=cntP (snkQ d k) j+_
  congr 1
  cases snkQ d k j<;>rfl
theorem qp2 {α β:Type} [Inhabited α] [Inhabited β] {xs:List α} {g:α→β} {j:Nat} (h:j<xs.length):gt (xs.map g) j=g (gt xs j):=by
 rw [qiq (by simpa using h),qiq h];simp
theorem qmj {d:qd} {k:Int} (h:smallD d):Ev (fun n=>qfy n d k) (sinksL d k (places d).length):=by
 have hl:=qks h
 have hL:Ev (fun n=>qa5 k ((places d).map toSp) n ([]:List Int) 0) (sinksL d k (places d).length,((places d).length:Int)):=by
  refine loopF (Lf:=qa5 k ((places d).map toSp)) (S:=fun j=>sinksL d k j) (len:=(places d).length) (fun n=>?_) (fun j hj X hX=>?_)
  ·simp only [qa5,List.length_map,qi (je _),cond_false]
  ·have hj':j<((places d).map toSp).length:=by simpa using hj
   have hc:(sinksL d k j).length+[(j:Int)].length≤2147483648:=by
    rw [qkN]
    have:cntP (snkQ d k) j≤j:=qe2
    simp;omega
   simp only [qa5,qj hj',cond_true,qan hj',qp2 hj,jd,wS j]
   rw [show ∀ p:Tplace,(toSp p).net=p.net from fun _=>rfl,show ∀ p:Tplace,(toSp p).drives=p.drives from fun _=>rfl]
   refine Ev.bind (b:=snkQ d k j) (Ev.andP fun _=>.done) ?_
   rw [qjL] at hX
   cases hq:snkQ d k j
   ·rw [hq] at hX
    simp only [cond_false,List.append_nil] at hX ⊢
    exact hX
   ·rw [hq] at hX
    simp only [cond_true,qh9 hc,jd] at hX ⊢
    exact hX
 unfold qfy
 exact Ev.bind (qng h) (Ev.bind hL .done)
theorem qmV {l:qn} {d:qd} (h:designB l d=true) {i:Nat} (hi:i<(places d).length):0≤(gt (places d) i).net∧(gt (places d) i).net<d.Ac.length:=by
 unfold designB at h
 simp only [jf] at h
 obtain ⟨_,hI,hP,_⟩:=h
 rw [qfX,qaI] at hI hP
 have hm:gt (places d) i ∈ places d:=by rw [qiq hi];exact jq hi
 generalize gt (places d) i=p at hm
 unfold places at hm
 rcases List.mem_append.1 hm with hm|hm
 ·unfold plI at hm
  obtain ⟨i,hi,hm⟩:=List.mem_flatMap.1 hm
  unfold plX at hm
  obtain ⟨k,hk,rfl⟩:=List.mem_map.1 hm
  have:=hI i (List.mem_range.1 hi)
  unfold instB at this
  simp only [jf] at this
  have h3:=this.2.2
  rw [qgp (d:=0),qaI] at h3
  have h4:=h3 k (List.mem_range.1 hk)
  unfold netB at h4
  rw [qb7] at h4
  show 0≤at0 _ _∧at0 _ _<_
  unfold at0
  omega
 ·unfold plP at hm
  obtain ⟨i,hi,rfl⟩:=List.mem_map.1 hm
  have:=hP i (List.mem_range.1 hi)
  unfold portB netB at this
  simp only [jf,qb7] at this
  show 0≤(gt d.Af i).Bk∧(gt d.Af i).Bk<_
  omega
def blockB (b:qp):Bool:=(designB b.As b.Ab&&((b.Aq.length:Int)==(b.Ab.Ac.length:Int)))&&allN (fun j=>wireB (gt b.Aq j) (snkN b.Ab (j:Int))) b.Aq.length
theorem qmT {b:qp} (h:qi9 b):Ev (fun n=>qgf n b) (blockB b):=by
 have hwl:=h.Aq.len
 unfold qgf blockB
 refine Ev.guardB (Ev.or (qmm h.As h.Ab) fun _=>.done) fun hb=>?_
 rw [jf,beq_iff_eq] at hb
 obtain ⟨hd,hw⟩:=hb
 have hs:=qip hd
 have hl:=qks hs
 have hn:=hs.nn
 rw [qib (m:=b.Aq.length) (by omega)]
 simp only [jd]
 have hL1:Ev (fun n=>qbt (places b.Ab) n (vecC (fun _=>0) b.Aq.length) 0) (vecC (fun k=>snkN b.Ab (k:Int)) b.Aq.length,((places b.Ab).length:Int)):=by
  refine loopF (Lf:=qbt (places b.Ab)) (S:=fun j=>vecC (fun k=>cntP (snkQ b.Ab (k:Int)) j) b.Aq.length) (len:=(places b.Ab).length) (fun n=>?_) (fun j hj X hX=>?_)
  ·simp only [qbt,qi (je _),cond_false];rfl
  ·simp only [qbt,qj hj,cond_true,qan hj,jd,wS j]
   obtain ⟨n0,n1⟩:=qmV hd hj
   cases h1:(gt (places b.Ab) j).drives
   ·have hc:cntP (snkQ b.Ab (((gt (places b.Ab) j).net.toNat:Nat):Int)) j≤j:=qe2
    obtain ⟨e1,e2⟩:=qg8 (c:=fun k=>cntP (snkQ b.Ab (k:Int)) j) (c':=fun k=>cntP (snkQ b.Ab (k:Int)) (j+1)) (x:=(gt (places b.Ab) j).net) (m:=b.Aq.length) n0 (by omega) (by show cntP _ _<_;omega) (fun k _=>by
     show cntP _ j+(bif snkQ b.Ab (k:Int) j then 1 else 0)=_
     unfold snkQ
     rw [h1,Bool.not_false,Bool.and_true])
    simp only [Bool.not_false,cond_true,jd,e1,e2]
    exact hX
   ·have:vecC (fun k=>cntP (snkQ b.Ab (k:Int)) (j+1)) b.Aq.length=vecC (fun k=>cntP (snkQ b.Ab (k:Int)) j) b.Aq.length:=by
     refine qgx (fun k _=>?_)
     show cntP _ j+(bif snkQ b.Ab (k:Int) j then 1 else 0)=_
     unfold snkQ
     rw [h1,Bool.not_true,Bool.and_false];rfl
    rw [this] at hX
    exact hX
 have hL2:Ev (fun n=>qcK b (vecC (fun k=>snkN b.Ab (k:Int)) b.Aq.length) n 0) (bif allN (fun j=>wireB (gt b.Aq j) (snkN b.Ab (j:Int))) b.Aq.length then .nxt (b.Aq.length:Int) else .ret false):=by
  refine qcE ?_ (fun j hj X hX=>Ev.succ ?_)
  ·exact Ev.succ (by simp only [qcK,qi (je _),cond_false];exact .done)
  ·simp only [qcK,qj hj,cond_true,qan hj,qgG hj,jd,wS j]
   exact Ev.chk1 (qnQ (qhT h.Aq hj)) fun _=>hX
 refine Ev.bind (qnX hs) (Ev.bind hL1 (Ev.bind hL2 ?_))
 cases allN (fun j=>wireB (gt b.Aq j) (snkN b.Ab (j:Int))) b.Aq.length<;>exact .done
theorem qmx {b:qp} (h:qi9 b):Ev (fun n=>qgg n b) (blockB b):=by
 have hwl:=h.Aq.len
 unfold qgg blockB
 refine Ev.guardB (Ev.or (qlS h.As h.Ab) fun _=>.done) fun hb=>?_
 rw [jf] at hb
 have hs:=qip hb.1
 have hL:Ev (fun n=>qcF b n 0) (bif allN (fun j=>wireB (gt b.Aq j) (snkN b.Ab (j:Int))) b.Aq.length then .nxt (b.Aq.length:Int) else .ret false):=by
  refine qcE ?_ (fun j hj X hX=>Ev.succ ?_)
  ·exact Ev.succ (by simp only [qcF,qi (je _),cond_false];exact .done)
  ·simp only [qcF,qj hj,cond_true,qan hj,jd,wS j]
   refine Ev.bind (qmj hs) ?_
   rw [qkN]
   exact Ev.chk1 (qnn (qhT h.Aq hj)) fun _=>hX
 refine Ev.bind hL ?_
 cases allN (fun j=>wireB (gt b.Aq j) (snkN b.Ab (j:Int))) b.Aq.length<;>exact .done
end Go.Fw


namespace Go.Fw
open Go Go.Proofs
open Go.RowKit (Below)
set_option maxRecDepth 100000
set_option maxHeartbeats 1600000
variable {n:Nat} {w:World} {cs1 cs2 cs3 cs4 cs5 cs6 cs7 cs8 cs9:List Value}
def qaT (list:(List Int)) (a_n:Int):Nat→Int→Option (Flow Bool Int)
 | 0,_=>none
 | n+1,i1 =>
  bif decide (i1<(list.length:Int)) then
   (idx list i1).bind fun y1 =>
   (qP n y1 0 (W64 (a_n-1))).bind fun r1 =>
   bif (!r1) then some (.ret false) else
   bif decide (i1 > 0) then
    (idx list (W64 (i1-1))).bind fun y2 =>
    (idx list i1).bind fun y3 =>
    bif decide (y2 ≥ y3) then some (.ret false) else
    qaT list a_n n (W64 (i1+1))
   else
    qaT list a_n n (W64 (i1+1))
  else
   some (.nxt i1)
def qe1 (n:Nat) (list:(List Int)) (a_n:Int):Option Bool :=
 (qaT list a_n n 0).bind fun o=>match o with
 | .ret r=>some r
 | .nxt _ =>
  some true
theorem qi2 {list:(List Int)} {a_n:Int} (ha1:GoT.R w (old w) list cs1) {r:Bool} (hF:qe1 n list a_n=some r):RetV Tryz.prog 53 [GoT.v (List Int) cs1,.int .i64 a_n] w r:=by
 obtain ⟨p1,k1,rfl,s1⟩:=ha1
 refine zV 36 Tryz.func53 rfl fun h=>X0 9 rfl ?_
 obtain ⟨o1,hF,hK1⟩:=qf hF
 refine qm (rL (fun m e w'=>∃ (i1:Int),qaT list a_n m i1=some o1∧e=[(0,.slice p1 list.length k1),(1,.int .i64 a_n),(5,.int .i64 i1)]∧SH w w' []) n ⟨_,hF,rfl,h⟩ rfl ?_)
 rintro m1 e1 w1 ⟨i1,hF,rfl,h⟩
 rcases m1 with _|m1
 ·cases hF
 refine X0 8 rfl (qh rfl hF ?_ ?_)<;>intro hF
 ·refine X0 4 rfl (rD (zd2 rfl ?_))
  obtain ⟨y1,hy1,hF,he1,b1,_,q1,cs2,hp1,hq1,rfl,hc2⟩:=s1.ix hF
  refine zdxe hp1 hq1 he1 rfl (zdc 0 (hc2.below h.below) rfl (zd2 rfl ?_))
  obtain ⟨r1,hr2,hF⟩:=qf hF
  refine qbz r1 (vsB _) (cB 73 rfl) (fun _ hb=>qH  hr2) rfl rfl rfl rfl (zd2 rfl (qaH (t:=20) hF rfl ?_ ?_))<;>intro hF
  ·refine Y0 15 rfl (dN h fun w2 h=>qdv rfl rfl (X0 4 rfl ?_))
   obtain rfl:=qa hF;replace hF:=hK1
   exact rb h hF rfl
  refine Y0 6 rfl (qaH (t:=23) hF rfl ?_ ?_)<;>intro hF
  ·refine Y0 7 rfl ?_
   obtain ⟨y2,hy2,hF,he2,b2,_,q2,cs3,hp2,hq2,rfl,hc3⟩:=s1.ix hF
   refine zdxe hp2 hq2 he2 rfl (Y0 1 rfl (zdc 0 (hc3.below h.below) rfl (Y0 5 rfl ?_)))
   obtain ⟨y3,hy3,hF,he3,b3,_,q3,cs4,hp3,hq3,rfl,hc4⟩:=s1.ix hF
   refine zdxe hp3 hq3 he3 rfl (Y0 1 rfl (zdc 0 (hc4.below h.below) rfl (Y0 5 rfl (dN h fun w3 h=>qh rfl hF ?_ ?_))))<;>intro hF
   ·refine X0 4 rfl ?_
    obtain rfl:=qa hF;replace hF:=hK1
    exact rb h hF rfl
   exact X0 7 rfl (rK ⟨_,hF,rfl,h⟩ rfl)
  exact Y0 13 rfl (dN h fun w4 h=>qej rfl rfl (X0 7 rfl (rK ⟨_,hF,rfl,h⟩ rfl)))
 refine qq rfl ?_
 obtain rfl:=qa hF;replace hF:=hK1
 exact X0 4 rfl (rb h hF rfl)
end Go.Fw


namespace Go.Fw
open Go Go.Proofs
open Go.RowKit (Below)
set_option maxRecDepth 100000
set_option maxHeartbeats 1600000
variable {n:Nat} {w:World} {cs1 cs2 cs3 cs4 cs5 cs6 cs7 cs8 cs9:List Value}
end Go.Fw
