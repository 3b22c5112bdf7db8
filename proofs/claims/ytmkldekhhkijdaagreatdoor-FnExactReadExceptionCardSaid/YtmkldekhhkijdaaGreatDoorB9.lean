/- By a program of mine (gen.py): for each function a plain function and the proof that the code computes it. -/
import Derived.Test.YtmkldekhhkijdaaGreatDoorA2
import Derived.Test.YtmkldekhhkijdaaGreatDoorFw30
open Option renaming bind_some → jd, map_some → jL
open Nat renaming le_refl → je, mul_le_mul_right → jo, le_of_ble_eq_true → jq, lt_of_lt_of_le → jr, succ_mul → jF, zero_le → jP, zero_add → jQ
open Go.Result renaming andThen_ok → jf
open Bool renaming and_eq_true → jg, eq_iff_iff → jl, true_and → jB, not_eq_true' → jJ
open List renaming getElem?_eq_getElem → jh, length_append → ji, length_singleton → jm, mem_cons_of_mem → jn, mem_cons_self → jp, length_cons → js, getElem?_append_left → jt, getElem_mem → ju, getD_eq_getElem?_getD → jv, getElem?_take → jw, drop_eq_getElem_cons → jx, getElem?_append_right → jy, getElem?_toArray → jz, mem_of_getElem? → jA, eq_nil_of_length_eq_zero → jD, append_assoc → jE, size_toArray → jG, length_map → jH, getElem_of_mem → jI, all_eq_true → jK, map_append → jM, not_mem_nil → jN, take_length → jO, map_cons → jR
open Go.Sem renaming run_bind → jj, run_pure → jk
open Int renaming toNat_natCast → jC

namespace Go.Fw
open Go Go.Proofs
open Go.RowKit (Below)
set_option maxRecDepth 100000
set_option maxHeartbeats 6400000
variable {n:Nat} {w:World} {cs1 cs2 cs3 cs4 cs5 cs6 cs7 cs8 cs9:List Value}
def qdd (a_1:qc) (y1:qd):Nat→Int→Option (Flow Bool Int)
 | 0,_=>none
 | n+1,i2 =>
  bif decide (i2<(y1.Af.length:Int)) then
   (idx y1.Af i2).bind fun y2 =>
   (qY n y2 0 (W64 ((a_1.Af.length:Int)-1))).bind fun r1 =>
   bif (!r1) then some (.ret false) else
   qdd a_1 y1 n (W64 (i2+1))
  else
   some (.nxt i2)
def qc4 (a_1:qc):Nat→Int→Option (Flow Bool Int)
 | 0,_=>none
 | n+1,i3 =>
  bif decide (i3<(a_1.Ac.length:Int)) then
   (idx a_1.Ac i3).bind fun y4 =>
   (qY n y4.Bl 1 2).bind fun r3 =>
   bif (!r3) then some (.ret false) else
   (idx a_1.Ac i3).bind fun y5 =>
   (qY n y5.Bn 0 (W64 ((a_1.Af.length:Int)-1))).bind fun r4 =>
   bif (!r4) then some (.ret false) else
   qc4 a_1 n (W64 (i3+1))
  else
   some (.nxt i3)
def qc3 (a_0:qh) (a_1:qc):Nat→Int→Option (Flow Bool Int)
 | 0,_=>none
 | n+1,i1 =>
  bif decide (i1<(a_1.Aa.length:Int)) then
   (idx a_1.Aa i1).bind fun y1 =>
   (
    (qY n y1.Bg 0 (W64 ((a_0.Ai.length:Int)-1))).bind fun r2 =>
    bif (!r2) then some true else
    (idx a_0.Ai y1.Bg).bind fun y3 =>
    some ((y1.Af.length:Int) != (y3.Am.length:Int))).bind fun b2 =>
   bif b2 then some (.ret false) else
   (qdd a_1 y1 n 0).bind fun o=>match o with
   | .ret r=>some (.ret r)
   | .nxt _ =>
    qc3 a_0 a_1 n (W64 (i1+1))
  else
   some (.nxt i1)
def qgF (n:Nat) (a_0:qh) (a_1:qc):Option Bool :=
 (qc3 a_0 a_1 n 0).bind fun o=>match o with
 | .ret r=>some r
 | .nxt _ =>
  (qc4 a_1 n 0).bind fun o=>match o with
  | .ret r=>some r
  | .nxt _ =>
   some true
theorem qkM {a_0:qh} {a_1:qc} (ha1:GoT.R w (old w) a_0 cs1) (ha2:GoT.R w (old w) a_1 cs2) {r:Bool} (hF:qgF n a_0 a_1=some r):RetV Tryz.prog 134 [GoT.v qh cs1,GoT.v qc cs2] w r:=by
 obtain ⟨p1,k1,rfl,s1⟩:=qU ha1
 obtain ⟨p2,k2,p3,k3,p4,k4,rfl,s2,s3,s4⟩:=qK ha2
 refine zV 90 Tryz.func134 rfl fun h=>zSR (qr h rfl rfl fun w1 bb1 h=>qr h rfl rfl fun w2 bb2 h=>X1 14 0 h rfl ?_)
 obtain ⟨o1,hF,hK1⟩:=qe hF
 refine ql (rL (fun m e w'=>∃ (i1:Int),qc3 a_0 a_1 m i1=some o1∧e=[(2,.pointer (some ⟨bb1,0,none⟩)),(3,.pointer (some ⟨bb2,0,none⟩)),(5,.int .i64 (a_1.Af.length:Int)),(6,.int .i64 i1)]∧SH w w' [Ch.box bb2 (qaD a_1 p2 p3 p4 k2 k3 k4) 45,Ch.box bb1 [.slice p1 a_0.Ai.length k1] 41]) n ⟨_,hF,rfl,h⟩ rfl ?_)
 rintro m1 e1 w3 ⟨i1,hF,rfl,h⟩
 rcases m1 with _|m1
 ·cases hF
 refine X1 9 0 h rfl (qg rfl hF ?_ ?_)<;>intro hF
 ·refine X1 8 0 h rfl ?_
  obtain ⟨y1,hy1,hF,he1,b1,_,q1,cs3,hp1,hq1,hr1,hc2⟩:=s2.ix hF
  obtain ⟨p5,k5,rfl,s5⟩:=qG hr1
  refine zxe hp1 hq1 he1 rfl (zc 0 (hc2.below h.below) rfl (qB qb h rfl rfl rfl fun w4 bb3 h=>zs 0 h rfl fun w5 h=>zNSS ?_))
  obtain ⟨KF1,hKF1,o3,hF,hK3⟩:=bindE hF
  refine qbx (fun e w'=>∃ (b2:Bool),KF1 b2=some o1∧e=[(2,.pointer (some ⟨bb1,0,none⟩)),(3,.pointer (some ⟨bb2,0,none⟩)),(5,.int .i64 (a_1.Af.length:Int)),(6,.int .i64 i1),(7,.pointer (some ⟨bb3,0,none⟩)),(46,.bool b2)]∧SH w w' [Ch.box bb3 (qgS y1 p5 k5) 121,Ch.box bb2 (qaD a_1 p2 p3 p4 k2 k3 k4) 45,Ch.box bb1 [.slice p1 a_0.Ai.length k1] 41]) ?_ ?_
  ·refine rD (Y1 2 0 h rfl ?_)
   refine Y1 2 2 h rfl ?_
   refine zd2 rfl ?_
   obtain ⟨r2,hr4,hF⟩:=qe hF
   refine qbk r2 (vsB _) (cB 47 rfl) (fun _ hb=>qN  hr4) rfl rfl rfl rfl (zd2 rfl (qbm (t:=33) hF rfl ?_ ?_))<;>intro hF
   ·refine Y0 13 rfl (dN h fun w8 h=>?_)
    obtain rfl:=qa hF
    exact rG ⟨_,hK3,rfl,h⟩ rfl
   refine Y1 4 0 h rfl ?_
   refine Y1 6 2 h rfl ?_
   refine Y1 4 0 h rfl ?_
   refine Y0 1 rfl ?_
   obtain ⟨y3,hy3,hF,he3,b4,_,q3,cs5,hp3,hq3,hr5,hc7⟩:=s1.ix hF
   obtain ⟨p6,k6,p7,k7,p8,k8,rfl,s6,s7,s8⟩:=qL hr5
   refine zdxe hp3 hq3 he3 rfl (Y0 3 rfl (zdc 2 (hc7.below h.below) rfl (Y0 5 rfl (dN h fun w9 h=>?_))))
   obtain rfl:=qa hF
   exact rG ⟨_,hK3,rfl,h⟩ rfl
  rintro e3 w10 ⟨b2,hF,rfl,h⟩
  subst hKF1
  refine qg rfl hF ?_ ?_<;>intro hF
  ·refine X0 4 rfl ?_
   obtain rfl:=qa hF;replace hF:=hK1
   exact rb h hF rfl
  refine X0 5 rfl ?_
  obtain ⟨o2,hF,hK2⟩:=qe hF
  refine ql (rL (fun m e w'=>∃ (i2:Int),qdd a_1 y1 m i2=some o2∧e=[(2,.pointer (some ⟨bb1,0,none⟩)),(3,.pointer (some ⟨bb2,0,none⟩)),(5,.int .i64 (a_1.Af.length:Int)),(6,.int .i64 i1),(7,.pointer (some ⟨bb3,0,none⟩)),(8,.int .i64 i2)]∧SH w w' [Ch.box bb3 (qgS y1 p5 k5) 121,Ch.box bb2 (qaD a_1 p2 p3 p4 k2 k3 k4) 45,Ch.box bb1 [.slice p1 a_0.Ai.length k1] 41]) m1 ⟨_,hF,rfl,h⟩ rfl ?_)
  rintro m2 e2 w6 ⟨i2,hF,rfl,h⟩
  rcases m2 with _|m2
  ·cases hF
  refine X1 9 0 h rfl (qg rfl hF ?_ ?_)<;>intro hF
  ·refine X1 8 0 h rfl ?_
   obtain ⟨y2,hy2,hF,he2,b3,_,q2,cs4,hp2,hq2,rfl,hc5⟩:=s5.ix hF
   refine zxe hp2 hq2 he2 rfl (zc 0 (hc5.below h.below) rfl (zp2 rfl (zcB h hF qN rfl fun r1 w7 h hF=>X0 2 rfl (qg rfl hF ?_ ?_))))<;>intro hF
   ·refine X0 4 rfl ?_
    obtain rfl:=qa hF;replace hF:=hK2
    obtain rfl:=qa hF;replace hF:=hK1
    exact rb h hF rfl
   exact X0 7 rfl (rK ⟨_,hF,rfl,h⟩ rfl)
  refine qq rfl ?_
  obtain rfl:=qa hF;replace hF:=hK2
  refine X0 6 rfl ?_
  replace h:=h.pick [1,2] rfl
  exact rK ⟨_,hF,rfl,h⟩ rfl
 refine qq rfl ?_
 obtain rfl:=qa hF;replace hF:=hK1
 refine X0 5 rfl ?_
 obtain ⟨o4,hF,hK4⟩:=qe hF
 refine ql ?_
 replace h:=h.pick [0] rfl
 refine rL (fun m e w'=>∃ (i3:Int),qc4 a_1 m i3=some o4∧e=[(3,.pointer (some ⟨bb2,0,none⟩)),(5,.int .i64 (a_1.Af.length:Int)),(9,.int .i64 i3)]∧SH w w' [Ch.box bb2 (qaD a_1 p2 p3 p4 k2 k3 k4) 45]) n ⟨_,hF,rfl,h⟩ rfl ?_
 rintro m3 e4 w11 ⟨i3,hF,rfl,h⟩
 rcases m3 with _|m3
 ·cases hF
 refine X1 9 0 h rfl (qg rfl hF ?_ ?_)<;>intro hF
 ·refine X1 8 0 h rfl ?_
  obtain ⟨y4,hy4,hF,he4,b5,_,q4,cs6,hp4,hq4,hr6,hc9⟩:=s4.ix hF
  obtain rfl:=qah hr6
  refine zxe hp4 hq4 he4 rfl (zp1 rfl (zc 1 (hc9.below h.below) rfl (zcB h hF qN rfl fun r3 w12 h hF=>zp2 rfl (qi (t:=78) hF rfl ?_ ?_))))<;>intro hF
  ·refine X0 12 rfl (qdp rfl rfl (X0 4 rfl ?_))
   obtain rfl:=qa hF;replace hF:=hK4
   exact rb h hF rfl
  refine X1 7 0 h rfl ?_
  obtain ⟨y5,hy5,hF,he5,b6,_,q5,cs7,hp5,hq5,hr8,hc10⟩:=s4.ix hF
  obtain rfl:=qah hr8
  refine zxe hp5 hq5 he5 rfl (X0 3 rfl (zc 2 (hc10.below h.below) rfl (X0 5 rfl (zcB h hF qN rfl fun r4 w13 h hF=>X0 4 rfl (qg rfl hF ?_ ?_)))))<;>intro hF
  ·refine X0 4 rfl ?_
   obtain rfl:=qa hF;replace hF:=hK4
   exact rb h hF rfl
  exact X0 7 rfl (rK ⟨_,hF,rfl,h⟩ rfl)
 refine qq rfl ?_
 obtain rfl:=qa hF;replace hF:=hK4
 exact X0 4 rfl (rb h hF rfl)
def qdg (list:(List ByteArray)) (i1:Int):Nat→Int→Option (Flow Bool Int)
 | 0,_=>none
 | n+1,i2 =>
  bif decide (i2<i1) then
   (idx list i2).bind fun y2 =>
   (idx list i1).bind fun y3 =>
   bif (y2.toList==y3.toList) then some (.ret false) else
   qdg list i1 n (W64 (i2+1))
  else
   some (.nxt i2)
def qdc (list:(List ByteArray)):Nat→Int→Option (Flow Bool Int)
 | 0,_=>none
 | n+1,i1 =>
  bif decide (i1<(list.length:Int)) then
   (idx list i1).bind fun y1 =>
   (qfv n y1).bind fun r1 =>
   bif (!r1) then some (.ret false) else
   (qdg list i1 n 0).bind fun o=>match o with
   | .ret r=>some (.ret r)
   | .nxt _ =>
    qdc list n (W64 (i1+1))
  else
   some (.nxt i1)
def qeR (n:Nat) (list:(List ByteArray)):Option Bool :=
 (qdc list n 0).bind fun o=>match o with
 | .ret r=>some r
 | .nxt _ =>
  some true
theorem qgA {list:(List ByteArray)} (ha1:GoT.R w (old w) list cs1) {r:Bool} (hF:qeR n list=some r):RetV Tryz.prog 135 [GoT.v (List ByteArray) cs1] w r:=by
 obtain ⟨p1,k1,rfl,s1⟩:=ha1
 refine zV 31 Tryz.func135 rfl fun h=>X0 9 rfl ?_
 obtain ⟨o1,hF,hK1⟩:=qe hF
 refine ql (rL (fun m e w'=>∃ (i1:Int),qdc list m i1=some o1∧e=[(0,.slice p1 list.length k1),(3,.int .i64 i1)]∧SH w w' []) n ⟨_,hF,rfl,h⟩ rfl ?_)
 rintro m1 e1 w1 ⟨i1,hF,rfl,h⟩
 rcases m1 with _|m1
 ·cases hF
 refine X0 8 rfl (qg rfl hF ?_ ?_)<;>intro hF
 ·refine X0 8 rfl ?_
  obtain ⟨y1,hy1,hF,he1,b1,_,q1,cs2,hp1,hq1,rfl,hc2⟩:=s1.ix hF
  refine zxe hp1 hq1 he1 rfl (zc 0 (hc2.below h.below) rfl (zcB h hF qg7 rfl fun r1 w2 h hF=>X0 2 rfl (qg rfl hF ?_ ?_)))<;>intro hF
  ·refine X0 4 rfl ?_
   obtain rfl:=qa hF;replace hF:=hK1
   exact rb h hF rfl
  refine X0 5 rfl ?_
  obtain ⟨o2,hF,hK2⟩:=qe hF
  refine ql (rL (fun m e w'=>∃ (i2:Int),qdg list i1 m i2=some o2∧e=[(0,.slice p1 list.length k1),(3,.int .i64 i1),(4,.int .i64 i2)]∧SH w w' []) m1 ⟨_,hF,rfl,h⟩ rfl ?_)
  rintro m2 e2 w3 ⟨i2,hF,rfl,h⟩
  rcases m2 with _|m2
  ·cases hF
  refine X0 7 rfl (qg rfl hF ?_ ?_)<;>intro hF
  ·refine X0 4 rfl (rD (zd2 rfl ?_))
   obtain ⟨y2,hy2,hF,he2,b2,_,q2,cs3,hp2,hq2,rfl,hc5⟩:=s1.ix hF
   refine zdxe hp2 hq2 he2 rfl (zdc 0 (hc5.below h.below) rfl (zd2 rfl ?_))
   obtain ⟨y3,hy3,hF,he3,b3,_,q3,cs4,hp3,hq3,rfl,hc6⟩:=s1.ix hF
   refine zdxe hp3 hq3 he3 rfl (zdc 0 (hc6.below h.below) rfl (zd1 rfl (dN h fun w4 h=>qg rfl hF ?_ ?_)))<;>intro hF
   ·refine X0 4 rfl ?_
    obtain rfl:=qa hF;replace hF:=hK2
    obtain rfl:=qa hF;replace hF:=hK1
    exact rb h hF rfl
   exact X0 7 rfl (rK ⟨_,hF,rfl,h⟩ rfl)
  refine qq rfl ?_
  obtain rfl:=qa hF;replace hF:=hK2
  exact X0 6 rfl (rK ⟨_,hF,rfl,h⟩ rfl)
 refine qq rfl ?_
 obtain rfl:=qa hF;replace hF:=hK1
 exact X0 4 rfl (rb h hF rfl)
def qda (x5:(List Int)) (x7:(List Int)):Nat→Int→Option (Flow Bool Int)
 | 0,_=>none
 | n+1,i5 =>
  bif decide (i5<(x5.length:Int)) then
   (idx x7 i5).bind fun y11 =>
   bif (y11 != 1) then some (.ret false) else
   qda x5 x7 n (W64 (i5+1))
  else
   some (.nxt i5)
def qbE (a_1:qc):Nat→(List Int)→Int→Option ((List Int) × Int)
 | 0,_,_=>none
 | n+1,x7,i4 =>
  bif decide (i4<(a_1.Ac.length:Int)) then
   (idx a_1.Ac i4).bind fun y7 =>
   bif (y7.Bl==1) then
    (idx a_1.Ac i4).bind fun y8 =>
    (idx x7 y8.Bn).bind fun y9 =>
    (idx x7 y8.Bn).bind fun _ =>
    qbE a_1 n (setS x7 y8.Bn (W64 (y9+1))) (W64 (i4+1))
   else
    qbE a_1 n x7 (W64 (i4+1))
  else
   some (x7,i4)
def qcj (a_1:qc):Nat→(List Int)→Int→Option ((List Int) × Int)
 | 0,_,_=>none
 | n+1,x6,i3 =>
  bif decide (i3<(a_1.Aa.length:Int)) then
   (idx a_1.Aa i3).bind fun y3 =>
   (idx y3.Af (W64 ((y3.Af.length:Int)-1))).bind fun y4 =>
   (idx x6 y4).bind fun y5 =>
   (idx x6 y4).bind fun _ =>
   qcj a_1 n (setS x6 y4 (W64 (y5+1))) (W64 (i3+1))
  else
   some (x6,i3)
def qck (a_1:qc):Nat→(List ByteArray)→Int→Option ((List ByteArray) × Int)
 | 0,_,_=>none
 | n+1,x3,i2 =>
  bif decide (i2<(a_1.Ac.length:Int)) then
   (idx a_1.Ac i2).bind fun y2 =>
   (appS x3 ([y2.Aq]:List ByteArray)).bind fun x4 =>
   qck a_1 n x4 (W64 (i2+1))
  else
   some (x3,i2)
def qcg (a_1:qc):Nat→(List ByteArray)→Int→Option ((List ByteArray) × Int)
 | 0,_,_=>none
 | n+1,x1,i1 =>
  bif decide (i1<(a_1.Aa.length:Int)) then
   (idx a_1.Aa i1).bind fun y1 =>
   (appS x1 ([y1.Aq]:List ByteArray)).bind fun x2 =>
   qcg a_1 n x2 (W64 (i1+1))
  else
   some (x1,i1)
def qeQ (n:Nat) (a_0:qh) (a_1:qc):Option Bool :=
 (
  (qgh n a_0).bind fun r4 =>
  bif (!r4) then some true else
  bif decide ((a_1.Aa.length:Int) > 14) then some true else
  bif decide ((a_1.Af.length:Int) > 30) then some true else
  bif decide ((a_1.Ac.length:Int) > 8) then some true else
  (qgF n a_0 a_1).bind fun r5 =>
  some (!r5)).bind fun b1 =>
 bif b1 then some false else
 (qcg a_1 n ([]:List ByteArray) 0).bind fun o=>match o with
 | (x1,_) =>
  (qck a_1 n ([]:List ByteArray) 0).bind fun o=>match o with
  | (x3,_) =>
   (
    (qeR n x1).bind fun r1 =>
    bif (!r1) then some true else
    (qeR n x3).bind fun r2 =>
    bif (!r2) then some true else
    (qeR n a_1.Af).bind fun r3 =>
    some (!r3)).bind fun b4 =>
   bif b4 then some false else
   (mkS (a_1.Af.length:Int) (0:Int)).bind fun x5 =>
   (qcj a_1 n x5 0).bind fun o=>match o with
   | (x6,_) =>
    (qbE a_1 n x6 0).bind fun o=>match o with
    | (x7,_) =>
     (qda x5 x7 n 0).bind fun o=>match o with
     | .ret r=>some r
     | .nxt _ =>
      some true
theorem qgD {a_0:qh} {a_1:qc} (ha1:GoT.R w (old w) a_0 cs1) (ha2:GoT.R w (old w) a_1 cs2) {r:Bool} (hF:qeQ n a_0 a_1=some r):RetV Tryz.prog 88 [GoT.v qh cs1,GoT.v qc cs2] w r:=by
 obtain ⟨p1,k1,rfl,s1⟩:=qU ha1
 obtain ⟨p2,k2,p3,k3,p4,k4,rfl,s2,s3,s4⟩:=qK ha2
 refine zV 153 Tryz.func88 rfl fun h=>zSR (qr h rfl rfl fun w1 bb1 h=>qr h rfl rfl fun w2 bb2 h=>X0 4 rfl ?_)
 obtain ⟨KF2,hKF2,o7,hF,hK7⟩:=bindE hF
 refine qbx (fun e w'=>∃ (b1:Bool),KF2 b1=some r∧e=[(3,.pointer (some ⟨bb2,0,none⟩)),(40,.bool b1)]∧SH w w' [Ch.box bb2 (qaD a_1 p2 p3 p4 k2 k3 k4) 45]) ?_ ?_
 ·refine X1 2 1 h rfl (zcB h hF (qks (h.old ha1)) rfl fun r4 w21 h hF=>zp2 rfl (qi (t:=17) hF rfl ?_ ?_))<;>intro hF
  ·refine X0 24 rfl ?_
   replace h:=h.pick [0] rfl
   obtain rfl:=qa hF
   exact rG ⟨_,hK7,rfl,h⟩ rfl
  refine X1 10 0 h rfl (qi (t:=23) hF rfl ?_ ?_)<;>intro hF
  ·refine X0 18 rfl ?_
   replace h:=h.pick [0] rfl
   obtain rfl:=qa hF
   exact rG ⟨_,hK7,rfl,h⟩ rfl
  refine X1 10 0 h rfl (qi (t:=29) hF rfl ?_ ?_)<;>intro hF
  ·refine X0 12 rfl ?_
   replace h:=h.pick [0] rfl
   obtain rfl:=qa hF
   exact rG ⟨_,hK7,rfl,h⟩ rfl
  refine X1 10 0 h rfl (qi (t:=35) hF rfl ?_ ?_)<;>intro hF
  ·refine X0 6 rfl ?_
   replace h:=h.pick [0] rfl
   obtain rfl:=qa hF
   exact rG ⟨_,hK7,rfl,h⟩ rfl
  refine X2 5 1 0 h rfl (zcB h hF (qkM (h.old ha1) (h.old ha2)) rfl fun r5 w22 h hF=>X0 4 rfl ?_)
  replace h:=h.pick [0] rfl
  obtain rfl:=qa hF
  exact rG ⟨_,hK7,rfl,h⟩ rfl
 rintro e7 w23 ⟨b1,hF,rfl,h⟩
 subst hKF2
 refine qg rfl hF ?_ ?_<;>intro hF
 ·exact X0 4 rfl (rb h hF rfl)
 refine zKSR (qR qb [] _ ([]:List ByteArray) h rfl rfl rfl rfl rfl rfl rfl rfl rfl trivial rfl fun w3 p5 S1 h=>X0 7 rfl ?_)
 obtain ⟨o1,hF,hK1⟩:=qe hF
 refine ql (rL (fun m e w'=>∃ (S2:Nat→Prop) (p6:Option Addr) (ln1:Nat) (k5:Nat) (x1:(List ByteArray)) (i1:Int),qcg a_1 m x1 i1=some o1∧e=[(3,.pointer (some ⟨bb2,0,none⟩)),(5,.slice p6 ln1 k5),(6,.int .i64 i1)]∧SH w w' [Ch.own S2 (x1:List ByteArray) [.slice p6 ln1 k5],Ch.box bb2 (qaD a_1 p2 p3 p4 k2 k3 k4) 45]) n ⟨_,_,_,_,_,_,hF,rfl,h⟩ rfl ?_)
 rintro m1 e1 w4 ⟨S2,p6,ln1,k5,x1,i1,hF,rfl,h⟩
 obtain rfl:=(h.sl 0 rfl).2
 rcases m1 with _|m1
 ·cases hF
 refine X1 9 1 h rfl (qg rfl hF ?_ ?_)<;>intro hF
 ·refine X1 8 1 h rfl ?_
  obtain ⟨y1,hy1,hF,he1,b2,_,q1,cs3,hp1,hq1,hr1,hc3⟩:=s2.ix hF
  obtain ⟨p7,k6,rfl,s5⟩:=qG hr1
  refine zxe hp1 hq1 he1 rfl (zp1 rfl (zc 0 (hc3.below h.below) rfl (qR qb [.tmp 55] _ ([y1.Aq]:List ByteArray) h rfl rfl rfl rfl rfl rfl rfl rfl rfl ⟨rfl,trivial⟩ rfl fun w5 p8 S3 h=>?_)))
  obtain ⟨x2,hx1,hF⟩:=qe hF
  obtain ⟨g1,hx1⟩:=qam hx1
  refine qcG qb 1 h rfl (h.sl 0 rfl).1 (h.sl 0 rfl).2 rfl rfl rfl rfl rfl rfl rfl rfl rfl g1 hx1 rfl fun w6 p9 k7 S4 h=>X0 8 rfl ?_
  replace h:=h.pick [1,2] rfl
  exact rK ⟨_,_,_,_,_,_,hF,rfl,h⟩ rfl
 refine qq rfl ?_
 obtain rfl:=qa hF;replace hF:=hK1
 refine zSR (qR qb [] _ ([]:List ByteArray) h rfl rfl rfl rfl rfl rfl rfl rfl rfl trivial rfl fun w7 p10 S5 h=>X0 7 rfl ?_)
 obtain ⟨o2,hF,hK2⟩:=qe hF
 refine ql (rL (fun m e w'=>∃ (S6:Nat→Prop) (p11:Option Addr) (ln2:Nat) (k8:Nat) (x3:(List ByteArray)) (i2:Int),qck a_1 m x3 i2=some o2∧e=[(3,.pointer (some ⟨bb2,0,none⟩)),(5,.slice p6 x1.length k5),(7,.slice p11 ln2 k8),(8,.int .i64 i2)]∧SH w w' [Ch.own S6 (x3:List ByteArray) [.slice p11 ln2 k8],Ch.own S2 (x1:List ByteArray) [.slice p6 x1.length k5],Ch.box bb2 (qaD a_1 p2 p3 p4 k2 k3 k4) 45]) n ⟨_,_,_,_,_,_,hF,rfl,h⟩ rfl ?_)
 rintro m2 e2 w8 ⟨S6,p11,ln2,k8,x3,i2,hF,rfl,h⟩
 obtain rfl:=(h.sl 0 rfl).2
 rcases m2 with _|m2
 ·cases hF
 refine X1 9 2 h rfl (qg rfl hF ?_ ?_)<;>intro hF
 ·refine X1 8 2 h rfl ?_
  obtain ⟨y2,hy2,hF,he2,b3,_,q2,cs4,hp2,hq2,hr2,hc5⟩:=s4.ix hF
  obtain rfl:=qah hr2
  refine zxe hp2 hq2 he2 rfl (zp1 rfl (zc 0 (hc5.below h.below) rfl (qR qb [.tmp 72] _ ([y2.Aq]:List ByteArray) h rfl rfl rfl rfl rfl rfl rfl rfl rfl ⟨rfl,trivial⟩ rfl fun w9 p12 S7 h=>?_)))
  obtain ⟨x4,hx2,hF⟩:=qe hF
  obtain ⟨g2,hx2⟩:=qam hx2
  refine qcG qb 1 h rfl (h.sl 0 rfl).1 (h.sl 0 rfl).2 rfl rfl rfl rfl rfl rfl rfl rfl rfl g2 hx2 rfl fun w10 p13 k9 S8 h=>X0 8 rfl ?_
  replace h:=h.pick [1,2,3] rfl
  exact rK ⟨_,_,_,_,_,_,hF,rfl,h⟩ rfl
 refine qq rfl ?_
 obtain rfl:=qa hF;replace hF:=hK2
 refine zSS ?_
 obtain ⟨KF1,hKF1,o6,hF,hK6⟩:=bindE hF
 refine qbx (fun e w'=>∃ (b4:Bool),KF1 b4=some r∧e=[(3,.pointer (some ⟨bb2,0,none⟩)),(88,.bool b4)]∧SH w w' [Ch.box bb2 (qaD a_1 p2 p3 p4 k2 k3 k4) 45]) ?_ ?_
 ·refine X0 2 rfl (zcB h hF (qgA (h.own 1 rfl)) rfl fun r1 w17 h hF=>zp2 rfl (qi (t:=78) hF rfl ?_ ?_))<;>intro hF
  ·refine X0 11 rfl ?_
   replace h:=h.pick [2] rfl
   obtain rfl:=qa hF
   exact rG ⟨_,hK6,rfl,h⟩ rfl
  refine X0 3 rfl (zcB h hF (qgA (h.own 0 rfl)) rfl fun r2 w18 h hF=>X0 4 rfl (qi (t:=83) hF rfl ?_ ?_))<;>intro hF
  ·refine X0 6 rfl ?_
   replace h:=h.pick [2] rfl
   obtain rfl:=qa hF
   exact rG ⟨_,hK6,rfl,h⟩ rfl
  refine X1 5 2 h rfl (zcB h hF (qgA ⟨_,_,rfl,(h.oldS s3)⟩) rfl fun r3 w19 h hF=>X0 4 rfl ?_)
  replace h:=h.pick [2] rfl
  obtain rfl:=qa hF
  exact rG ⟨_,hK6,rfl,h⟩ rfl
 rintro e6 w20 ⟨b4,hF,rfl,h⟩
 subst hKF1
 refine qg rfl hF ?_ ?_<;>intro hF
 ·exact X0 4 rfl (rb h hF rfl)
 refine X1 6 0 h rfl ?_
 obtain ⟨x5,hx3,hF⟩:=qe hF
 obtain ⟨g3,g4,hx3⟩:=qcM hx3
 refine qdY qb Int h rfl rfl rfl rfl rfl rfl rfl rfl rfl g3 g4 hx3 rfl fun w11 S9 p14 h=>X0 7 rfl ?_
 obtain ⟨o3,hF,hK3⟩:=qe hF
 refine ql (rL (fun m e w'=>∃ (x6:(List Int)) (i3:Int),qcj a_1 m x6 i3=some o3∧e=[(3,.pointer (some ⟨bb2,0,none⟩)),(9,.slice p14 x5.length x5.length),(10,.int .i64 i3)]∧SH w w' [Ch.own S9 (x6:List Int) [.slice p14 x5.length x5.length],Ch.box bb2 (qaD a_1 p2 p3 p4 k2 k3 k4) 45]) n ⟨_,_,hF,rfl,h⟩ rfl ?_)
 rintro m3 e3 w12 ⟨x6,i3,hF,rfl,h⟩
 rcases m3 with _|m3
 ·cases hF
 refine X1 9 1 h rfl (qg rfl hF ?_ ?_)<;>intro hF
 ·refine X1 8 1 h rfl ?_
  obtain ⟨y3,hy3,hF,he3,b5,_,q3,cs5,hp3,hq3,hr3,hc8⟩:=s2.ix hF
  obtain ⟨p15,k10,rfl,s6⟩:=qG hr3
  refine zxe hp3 hq3 he3 rfl (zp1 rfl (zc 2 (hc8.below h.below) rfl (X0 8 rfl ?_)))
  obtain ⟨y4,hy4,hF,he4,b6,_,q4,cs6,hp4,hq4,rfl,hc9⟩:=s6.ix hF
  refine zxe hp4 hq4 he4 rfl (zc 0 (hc9.below h.below) rfl ?_)
  obtain ⟨y5,hy5,hF,he5,b7,_,q5,cs7,hp5,hq5,rfl,hc10⟩:=(h.sl 0 rfl).1.ix hF
  refine zx hp5 hq5 ⟨he5.1,qI he5.2.1 (h.sl 0 rfl).2⟩ rfl (zc 0 hc10 rfl (zp1 rfl ?_))
  obtain ⟨y6,hy6,hF,he6,b8,_,q6,cs8,hp6,hq6,rfl,hc11⟩:=(h.sl 0 rfl).1.ix hF
  exact zx hp6 hq6 ⟨he6.1,qI he6.2.1 (h.sl 0 rfl).2⟩ rfl (qbK qb 0 0 (W64 (y5+1)) h rfl hy6 hp6 hq6 rfl hc11 rfl rfl rfl rfl rfl rfl rfl fun w13 h=>X0 7 rfl (rK ⟨_,_,hF,rfl,h⟩ rfl))
 refine qq rfl ?_
 obtain rfl:=qa hF;replace hF:=hK3
 refine X0 5 rfl ?_
 obtain ⟨o4,hF,hK4⟩:=qe hF
 refine ql (rL (fun m e w'=>∃ (x7:(List Int)) (i4:Int),qbE a_1 m x7 i4=some o4∧e=[(3,.pointer (some ⟨bb2,0,none⟩)),(9,.slice p14 x5.length x5.length),(12,.int .i64 i4)]∧SH w w' [Ch.own S9 (x7:List Int) [.slice p14 x5.length x5.length],Ch.box bb2 (qaD a_1 p2 p3 p4 k2 k3 k4) 45]) n ⟨_,_,hF,rfl,h⟩ rfl ?_)
 rintro m4 e4 w14 ⟨x7,i4,hF,rfl,h⟩
 rcases m4 with _|m4
 ·cases hF
 refine X1 9 1 h rfl (qg rfl hF ?_ ?_)<;>intro hF
 ·refine X1 8 1 h rfl ?_
  obtain ⟨y7,hy7,hF,he7,b9,_,q7,cs9,hp7,hq7,hr7,hc13⟩:=s4.ix hF
  obtain rfl:=qah hr7
  refine zxe hp7 hq7 he7 rfl (zp1 rfl (zc 1 (hc13.below h.below) rfl (X0 2 rfl (qg rfl hF ?_ ?_))))<;>intro hF
  ·refine X1 5 1 h rfl ?_
   obtain ⟨y8,hy8,hF,he8,b10,_,q8,cs10,hp8,hq8,hr8,hc15⟩:=s4.ix hF
   obtain rfl:=qah hr8
   refine zxe hp8 hq8 he8 rfl (zp1 rfl (zc 2 (hc15.below h.below) rfl ?_))
   obtain ⟨y9,hy9,hF,he9,b11,_,q9,cs11,hp9,hq9,rfl,hc16⟩:=(h.sl 0 rfl).1.ix hF
   refine zx hp9 hq9 ⟨he9.1,qI he9.2.1 (h.sl 0 rfl).2⟩ rfl (zc 0 hc16 rfl (zp1 rfl ?_))
   obtain ⟨y10,hy10,hF,he10,b12,_,q10,cs12,hp10,hq10,rfl,hc17⟩:=(h.sl 0 rfl).1.ix hF
   exact zx hp10 hq10 ⟨he10.1,qI he10.2.1 (h.sl 0 rfl).2⟩ rfl (qbK qb 0 0 (W64 (y9+1)) h rfl hy10 hp10 hq10 rfl hc17 rfl rfl rfl rfl rfl rfl rfl fun w15 h=>X0 7 rfl (rK ⟨_,_,hF,rfl,h⟩ rfl))
  exact X0 7 rfl (rK ⟨_,_,hF,rfl,h⟩ rfl)
 refine qq rfl ?_
 obtain rfl:=qa hF;replace hF:=hK4
 refine X0 5 rfl ?_
 obtain ⟨o5,hF,hK5⟩:=qe hF
 refine ql ?_
 replace h:=h.pick [0] rfl
 refine rL (fun m e w'=>∃ (i5:Int),qda x5 x7 m i5=some o5∧e=[(9,.slice p14 x5.length x5.length),(13,.int .i64 i5)]∧SH w w' [Ch.own S9 (x7:List Int) [.slice p14 x5.length x5.length]]) n ⟨_,hF,rfl,h⟩ rfl ?_
 rintro m5 e5 w16 ⟨i5,hF,rfl,h⟩
 rcases m5 with _|m5
 ·cases hF
 refine X0 8 rfl (qg rfl hF ?_ ?_)<;>intro hF
 ·refine X0 7 rfl ?_
  obtain ⟨y11,hy11,hF,he11,b13,_,q11,cs13,hp11,hq11,rfl,hc19⟩:=(h.sl 0 rfl).1.ix hF
  refine zx hp11 hq11 ⟨he11.1,qI he11.2.1 (h.sl 0 rfl).2⟩ rfl (zc 0 hc19 rfl (X0 2 rfl (qg rfl hF ?_ ?_)))<;>intro hF
  ·refine X0 4 rfl ?_
   obtain rfl:=qa hF;replace hF:=hK5
   exact rb h hF rfl
  exact X0 7 rfl (rK ⟨_,hF,rfl,h⟩ rfl)
 refine qq rfl ?_
 obtain rfl:=qa hF;replace hF:=hK5
 exact X0 4 rfl (rb h hF rfl)
def qd2 (a_0:qw):Nat→Int→Option (Flow Bool Int)
 | 0,_=>none
 | n+1,i2 =>
  bif decide (i2<(a_0.Bc.length:Int)) then
   (idx a_0.Bc i2).bind fun y7 =>
   (qY n y7 0 (W64 ((a_0.Ak.length:Int)-1))).bind fun r5 =>
   bif (!r5) then some (.ret false) else
   qd2 a_0 n (W64 (i2+1))
  else
   some (.nxt i2)
def qbR (a_0:qw):Nat→Int→Option (Flow Bool Int)
 | 0,_=>none
 | n+1,i1 =>
  bif decide (i1<(a_0.Ak.length:Int)) then
   (
    (idx a_0.Bk i1).bind fun y5 =>
    (qY n y5 0 500).bind fun r3 =>
    bif (!r3) then some true else
    (idx a_0.Bm i1).bind fun y6 =>
    (qY n y6 0 1000).bind fun r4 =>
    some (!r4)).bind fun b2 =>
   bif b2 then some (.ret false) else
   bif (i1==0) then
    (idx a_0.Ak i1).bind fun y1 =>
    bif (y1 != (-1)) then some (.ret false) else
    (idx a_0.Bm i1).bind fun y2 =>
    bif (y2 != 0) then some (.ret false) else
    bif decide (i1 > 0) then
     (idx a_0.Ak i1).bind fun y3 =>
     (qY n y3 0 (W64 (i1-1))).bind fun r1 =>
     bif (!r1) then some (.ret false) else
     qbR a_0 n (W64 (i1+1))
    else
     qbR a_0 n (W64 (i1+1))
   else
    bif decide (i1 > 0) then
     (idx a_0.Ak i1).bind fun y4 =>
     (qY n y4 0 (W64 (i1-1))).bind fun r2 =>
     bif (!r2) then some (.ret false) else
     qbR a_0 n (W64 (i1+1))
    else
     qbR a_0 n (W64 (i1+1))
  else
   some (.nxt i1)
def qib (n:Nat) (a_0:qw) (a_1:Int):Option Bool :=
 (
  bif decide ((a_0.Ak.length:Int)<1) then some true else
  bif decide ((a_0.Ak.length:Int) > 8) then some true else
  bif ((a_0.Bm.length:Int) != (a_0.Ak.length:Int)) then some true else
  bif ((a_0.Bk.length:Int) != (a_0.Ak.length:Int)) then some true else
  some ((a_0.Bc.length:Int) != a_1)).bind fun b1 =>
 bif b1 then some false else
 (qbR a_0 n 0).bind fun o=>match o with
 | .ret r=>some r
 | .nxt _ =>
  (qd2 a_0 n 0).bind fun o=>match o with
  | .ret r=>some r
  | .nxt _ =>
   some true
theorem qmb {a_0:qw} {a_1:Int} (ha1:GoT.R w (old w) a_0 cs1) {r:Bool} (hF:qib n a_0 a_1=some r):RetV Tryz.prog 89 [GoT.v qw cs1,.int .i64 a_1] w r:=by
 obtain ⟨p1,k1,p2,k2,p3,k3,p4,k4,rfl,s1,s2,s3,s4⟩:=qaU ha1
 refine zV 108 Tryz.func89 rfl fun h=>zSR (qr h rfl rfl fun w1 bb1 h=>X1 11 0 h rfl ?_)
 obtain ⟨KF2,hKF2,o4,hF,hK4⟩:=bindE hF
 refine qbx (fun e w'=>∃ (b1:Bool),KF2 b1=some r∧e=[(2,.pointer (some ⟨bb1,0,none⟩)),(5,.int .i64 (a_0.Ak.length:Int)),(37,.bool b1)]∧SH w w' [Ch.box bb1 (qgi a_0 p1 p2 p3 p4 k1 k2 k3 k4) 109]) ?_ ?_
 ·refine X0 4 rfl (qi (t:=13) hF rfl ?_ ?_)<;>intro hF
  ·refine X0 25 rfl ?_
   obtain rfl:=qa hF
   exact rG ⟨_,hK4,rfl,h⟩ rfl
  refine X0 6 rfl (qi (t:=17) hF rfl ?_ ?_)<;>intro hF
  ·refine X0 21 rfl ?_
   obtain rfl:=qa hF
   exact rG ⟨_,hK4,rfl,h⟩ rfl
  refine X1 12 0 h rfl (qi (t:=24) hF rfl ?_ ?_)<;>intro hF
  ·refine X0 14 rfl ?_
   obtain rfl:=qa hF
   exact rG ⟨_,hK4,rfl,h⟩ rfl
  refine X1 12 0 h rfl (qi (t:=31) hF rfl ?_ ?_)<;>intro hF
  ·refine X0 7 rfl ?_
   obtain rfl:=qa hF
   exact rG ⟨_,hK4,rfl,h⟩ rfl
  refine X1 12 0 h rfl ?_
  obtain rfl:=qa hF
  exact rG ⟨_,hK4,rfl,h⟩ rfl
 rintro e4 w10 ⟨b1,hF,rfl,h⟩
 subst hKF2
 refine qg rfl hF ?_ ?_<;>intro hF
 ·exact X0 4 rfl (rb h hF rfl)
 refine X0 6 rfl ?_
 obtain ⟨o1,hF,hK1⟩:=qe hF
 refine ql (rL (fun m e w'=>∃ (i1:Int),qbR a_0 m i1=some o1∧e=[(2,.pointer (some ⟨bb1,0,none⟩)),(5,.int .i64 (a_0.Ak.length:Int)),(6,.int .i64 i1)]∧SH w w' [Ch.box bb1 (qgi a_0 p1 p2 p3 p4 k1 k2 k3 k4) 109]) n ⟨_,hF,rfl,h⟩ rfl ?_)
 rintro m1 e1 w2 ⟨i1,hF,rfl,h⟩
 rcases m1 with _|m1
 ·cases hF
 refine X0 7 rfl (qg rfl hF ?_ ?_)<;>intro hF
 ·refine X0 5 rfl ?_
  obtain ⟨KF1,hKF1,o2,hF,hK2⟩:=bindE hF
  refine qbx (fun e w'=>∃ (b2:Bool),KF1 b2=some o1∧e=[(2,.pointer (some ⟨bb1,0,none⟩)),(5,.int .i64 (a_0.Ak.length:Int)),(6,.int .i64 i1),(58,.bool b2)]∧SH w w' [Ch.box bb1 (qgi a_0 p1 p2 p3 p4 k1 k2 k3 k4) 109]) ?_ ?_
  ·refine X1 4 0 h rfl ?_
   obtain ⟨y5,hy5,hF,he5,b7,_,q5,cs6,hp5,hq5,rfl,hc10⟩:=s3.ix hF
   refine zxe hp5 hq5 he5 rfl (zc 0 (hc10.below h.below) rfl (zcB h hF qN rfl fun r3 w5 h hF=>zp2 rfl (qi (t:=50) hF rfl ?_ ?_)))<;>intro hF
   ·refine X0 9 rfl ?_
    obtain rfl:=qa hF
    exact rG ⟨_,hK2,rfl,h⟩ rfl
   refine X1 7 0 h rfl ?_
   obtain ⟨y6,hy6,hF,he6,b8,_,q6,cs7,hp6,hq6,rfl,hc11⟩:=s2.ix hF
   refine zxe hp6 hq6 he6 rfl (X0 1 rfl (zc 0 (hc11.below h.below) rfl (X0 1 rfl (zcB h hF qN rfl fun r4 w6 h hF=>X0 4 rfl ?_))))
   obtain rfl:=qa hF
   exact rG ⟨_,hK2,rfl,h⟩ rfl
  rintro e2 w7 ⟨b2,hF,rfl,h⟩
  subst hKF1
  refine qg rfl hF ?_ ?_<;>intro hF
  ·refine X0 4 rfl ?_
   obtain rfl:=qa hF;replace hF:=hK1
   exact rb h hF rfl
  refine X0 6 rfl (qi (t:=61) hF rfl ?_ ?_)<;>intro hF
  ·refine X1 7 0 h rfl ?_
   obtain ⟨y1,hy1,hF,he1,b3,_,q1,cs2,hp1,hq1,rfl,hc4⟩:=s1.ix hF
   refine zxe hp1 hq1 he1 rfl (X0 1 rfl (zc 0 (hc4.below h.below) rfl (X0 4 rfl (qi (t:=68) hF rfl ?_ ?_))))<;>intro hF
   ·refine X0 25 rfl (qdp rfl rfl (X0 4 rfl ?_))
    obtain rfl:=qa hF;replace hF:=hK1
    exact rb h hF rfl
   refine X1 7 0 h rfl ?_
   obtain ⟨y2,hy2,hF,he2,b4,_,q2,cs3,hp2,hq2,rfl,hc5⟩:=s2.ix hF
   refine zxe hp2 hq2 he2 rfl (X0 1 rfl (zc 0 (hc5.below h.below) rfl (X0 6 rfl (qi (t:=77) hF rfl ?_ ?_))))<;>intro hF
   ·refine X0 15 rfl (qdp rfl rfl (X0 4 rfl ?_))
    obtain rfl:=qa hF;replace hF:=hK1
    exact rb h hF rfl
   refine X0 6 rfl (qi (t:=80) hF rfl ?_ ?_)<;>intro hF
   ·refine X1 7 0 h rfl ?_
    obtain ⟨y3,hy3,hF,he3,b5,_,q3,cs4,hp3,hq3,rfl,hc6⟩:=s1.ix hF
    refine zxe hp3 hq3 he3 rfl (X0 1 rfl (zc 0 (hc6.below h.below) rfl (X0 5 rfl (zcB h hF qN rfl fun r1 w3 h hF=>X0 6 rfl (qg rfl hF ?_ ?_)))))<;>intro hF
    ·refine X0 4 rfl ?_
     obtain rfl:=qa hF;replace hF:=hK1
     exact rb h hF rfl
    exact X0 7 rfl (rK ⟨_,hF,rfl,h⟩ rfl)
   exact X0 13 rfl (qfi rfl rfl (X0 7 rfl (rK ⟨_,hF,rfl,h⟩ rfl)))
  refine X0 22 rfl (qi (t:=80) hF rfl ?_ ?_)<;>intro hF
  ·refine X1 7 0 h rfl ?_
   obtain ⟨y4,hy4,hF,he4,b6,_,q4,cs5,hp4,hq4,rfl,hc8⟩:=s1.ix hF
   refine zxe hp4 hq4 he4 rfl (X0 1 rfl (zc 0 (hc8.below h.below) rfl (X0 5 rfl (zcB h hF qN rfl fun r2 w4 h hF=>X0 6 rfl (qg rfl hF ?_ ?_)))))<;>intro hF
   ·refine X0 4 rfl ?_
    obtain rfl:=qa hF;replace hF:=hK1
    exact rb h hF rfl
   exact X0 7 rfl (rK ⟨_,hF,rfl,h⟩ rfl)
  exact X0 13 rfl (qfi rfl rfl (X0 7 rfl (rK ⟨_,hF,rfl,h⟩ rfl)))
 refine qq rfl ?_
 obtain rfl:=qa hF;replace hF:=hK1
 refine X0 5 rfl ?_
 obtain ⟨o3,hF,hK3⟩:=qe hF
 refine ql (rL (fun m e w'=>∃ (i2:Int),qd2 a_0 m i2=some o3∧e=[(2,.pointer (some ⟨bb1,0,none⟩)),(5,.int .i64 (a_0.Ak.length:Int)),(7,.int .i64 i2)]∧SH w w' [Ch.box bb1 (qgi a_0 p1 p2 p3 p4 k1 k2 k3 k4) 109]) n ⟨_,hF,rfl,h⟩ rfl ?_)
 rintro m2 e3 w8 ⟨i2,hF,rfl,h⟩
 rcases m2 with _|m2
 ·cases hF
 refine X1 9 0 h rfl (qg rfl hF ?_ ?_)<;>intro hF
 ·refine X1 8 0 h rfl ?_
  obtain ⟨y7,hy7,hF,he7,b9,_,q7,cs8,hp7,hq7,rfl,hc13⟩:=s4.ix hF
  refine zxe hp7 hq7 he7 rfl (zc 0 (hc13.below h.below) rfl (zp2 rfl (zcB h hF qN rfl fun r5 w9 h hF=>X0 2 rfl (qg rfl hF ?_ ?_))))<;>intro hF
  ·refine X0 4 rfl ?_
   obtain rfl:=qa hF;replace hF:=hK3
   exact rb h hF rfl
  exact X0 7 rfl (rK ⟨_,hF,rfl,h⟩ rfl)
 refine qq rfl ?_
 obtain rfl:=qa hF;replace hF:=hK3
 exact X0 4 rfl (rb h hF rfl)
def qbO (i1:Int) (y1:qd):Nat→(List Tl05Place)→Int→Option ((List Tl05Place) × Int)
 | 0,_,_=>none
 | n+1,x2,i2 =>
  bif decide (i2<(y1.Af.length:Int)) then
   (idx y1.Af i2).bind fun y2 =>
   (appS x2 ([(⟨i1,i2,y2,(i2==(W64 ((y1.Af.length:Int)-1)))⟩:Tl05Place)]:List Tl05Place)).bind fun x3 =>
   qbO i1 y1 n x3 (W64 (i2+1))
  else
   some (x2,i2)
def qbM (a_0:qc):Nat→(List Tl05Place)→Int→Option ((List Tl05Place) × Int)
 | 0,_,_=>none
 | n+1,x4,i3 =>
  bif decide (i3<(a_0.Ac.length:Int)) then
   (idx a_0.Ac i3).bind fun y3 =>
   (idx a_0.Ac i3).bind fun y4 =>
   (appS x4 ([(⟨(-1),i3,y3.Bn,(y4.Bl==1)⟩:Tl05Place)]:List Tl05Place)).bind fun x5 =>
   qbM a_0 n x5 (W64 (i3+1))
  else
   some (x4,i3)
def qbW (a_0:qc):Nat→(List Tl05Place)→Int→Option ((List Tl05Place) × Int)
 | 0,_,_=>none
 | n+1,x1,i1 =>
  bif decide (i1<(a_0.Aa.length:Int)) then
   (idx a_0.Aa i1).bind fun y1 =>
   (qbO i1 y1 n x1 0).bind fun o=>match o with
   | (x2,_) =>
    qbW a_0 n x2 (W64 (i1+1))
  else
   some (x1,i1)
def qdj (n:Nat) (a_0:qc):Option (List Tl05Place) :=
 (qbW a_0 n ([]:List Tl05Place) 0).bind fun o=>match o with
 | (x1,_) =>
  (qbM a_0 n x1 0).bind fun o=>match o with
  | (x4,_) =>
   some x4
theorem qeY {a_0:qc} (ha1:GoT.R w (old w) a_0 cs1) {r:(List Tl05Place)} (hF:qdj n a_0=some r):RetV Tryz.prog 96 [GoT.v qc cs1] w r:=by
 obtain ⟨p1,k1,p2,k2,p3,k3,rfl,s1,s2,s3⟩:=qK ha1
 refine zV 69 Tryz.func96 rfl fun h=>zSR (qr h rfl rfl fun w1 bb1 h=>X0 4 rfl (qR qb [] _ ([]:List Tl05Place) h rfl rfl rfl rfl rfl rfl rfl rfl rfl trivial rfl fun w2 p4 S1 h=>X0 7 rfl ?_))
 obtain ⟨o1,hF,hK1⟩:=qe hF
 refine ql (rL (fun m e w'=>∃ (S2:Nat→Prop) (p5:Option Addr) (ln1:Nat) (k4:Nat) (x1:(List Tl05Place)) (i1:Int),qbW a_0 m x1 i1=some o1∧e=[(1,.pointer (some ⟨bb1,0,none⟩)),(3,.slice p5 ln1 k4),(4,.int .i64 i1)]∧SH w w' [Ch.own S2 (x1:List Tl05Place) [.slice p5 ln1 k4],Ch.box bb1 (qaD a_0 p1 p2 p3 k1 k2 k3) 45]) n ⟨_,_,_,_,_,_,hF,rfl,h⟩ rfl ?_)
 rintro m1 e1 w3 ⟨S2,p5,ln1,k4,x1,i1,hF,rfl,h⟩
 obtain rfl:=(h.sl 0 rfl).2
 rcases m1 with _|m1
 ·cases hF
 refine X1 9 1 h rfl (qg rfl hF ?_ ?_)<;>intro hF
 ·refine X1 8 1 h rfl ?_
  obtain ⟨y1,hy1,hF,he1,b1,_,q1,cs2,hp1,hq1,hr1,hc2⟩:=s1.ix hF
  obtain ⟨p6,k5,rfl,s4⟩:=qG hr1
  refine zxe hp1 hq1 he1 rfl (zp1 rfl (zc 2 (hc2.below h.below) rfl (X0 6 rfl ?_)))
  obtain ⟨o2,hF,hK2⟩:=qe hF
  refine ql (rL (fun m e w'=>∃ (S3:Nat→Prop) (p7:Option Addr) (ln2:Nat) (k6:Nat) (x2:(List Tl05Place)) (i2:Int),qbO i1 y1 m x2 i2=some o2∧e=[(1,.pointer (some ⟨bb1,0,none⟩)),(3,.slice p7 ln2 k6),(4,.int .i64 i1),(5,.slice p6 y1.Af.length k5),(6,.int .i64 i2)]∧SH w w' [Ch.own S3 (x2:List Tl05Place) [.slice p7 ln2 k6],Ch.box bb1 (qaD a_0 p1 p2 p3 k1 k2 k3) 45]) m1 ⟨_,_,_,_,_,_,hF,rfl,h⟩ rfl ?_)
  rintro m2 e2 w4 ⟨S3,p7,ln2,k6,x2,i2,hF,rfl,h⟩
  obtain rfl:=(h.sl 0 rfl).2
  rcases m2 with _|m2
  ·cases hF
  refine X0 8 rfl (qg rfl hF ?_ ?_)<;>intro hF
  ·refine X0 9 rfl ?_
   obtain ⟨y2,hy2,hF,he2,b2,_,q2,cs3,hp2,hq2,rfl,hc4⟩:=s4.ix hF
   refine zxe hp2 hq2 he2 rfl (zc 0 (hc4.below h.below) rfl (zp5 rfl (r_v (qb6 qb [0,1,2,3] [.tmp 29,.tmp 30,.tmp 34,.tmp 39] rfl rfl rfl rfl rfl rfl rfl rfl) rfl (qR qb [.tmp 40] _ ([(⟨i1,i2,y2,(i2==(W64 ((y1.Af.length:Int)-1)))⟩:Tl05Place)]:List Tl05Place) h rfl rfl rfl rfl rfl rfl rfl rfl rfl ⟨(qeN (⟨i1,i2,y2,(i2==(W64 ((y1.Af.length:Int)-1)))⟩:Tl05Place)),trivial⟩ rfl fun w5 p8 S4 h=>?_))))
   obtain ⟨x3,hx1,hF⟩:=qe hF
   obtain ⟨g1,hx1⟩:=qam hx1
   refine qcG qb 1 h rfl (h.sl 0 rfl).1 (h.sl 0 rfl).2 rfl rfl rfl rfl rfl rfl rfl rfl rfl g1 hx1 rfl fun w6 p9 k7 S5 h=>X0 8 rfl ?_
   replace h:=h.pick [1,2] rfl
   exact rK ⟨_,_,_,_,_,_,hF,rfl,h⟩ rfl
  refine qq rfl ?_
  obtain rfl:=qa hF;replace hF:=hK2
  exact X0 6 rfl (rK ⟨_,_,_,_,_,_,hF,rfl,h⟩ rfl)
 refine qq rfl ?_
 obtain rfl:=qa hF;replace hF:=hK1
 refine X0 5 rfl ?_
 obtain ⟨o3,hF,hK3⟩:=qe hF
 refine ql (rL (fun m e w'=>∃ (S6:Nat→Prop) (p10:Option Addr) (ln3:Nat) (k8:Nat) (x4:(List Tl05Place)) (i3:Int),qbM a_0 m x4 i3=some o3∧e=[(1,.pointer (some ⟨bb1,0,none⟩)),(3,.slice p10 ln3 k8),(7,.int .i64 i3)]∧SH w w' [Ch.own S6 (x4:List Tl05Place) [.slice p10 ln3 k8],Ch.box bb1 (qaD a_0 p1 p2 p3 k1 k2 k3) 45]) n ⟨_,_,_,_,_,_,hF,rfl,h⟩ rfl ?_)
 rintro m3 e3 w7 ⟨S6,p10,ln3,k8,x4,i3,hF,rfl,h⟩
 obtain rfl:=(h.sl 0 rfl).2
 rcases m3 with _|m3
 ·cases hF
 refine X1 9 1 h rfl (qg rfl hF ?_ ?_)<;>intro hF
 ·refine zKSB (rA [] [1] h rfl fun w8 h=>M1 31 [0,1,2,3,4] 0 (h.pick [1] rfl) rfl ?_)
  obtain ⟨y3,hy3,hF,he3,b3,_,q3,cs4,hp3,hq3,hr3,hc6⟩:=s3.ix hF
  obtain rfl:=qah hr3
  refine Ae 5 63 hp3 hq3 he3 (h.pick [1] rfl) rfl (M0 127 [6] (h.pick [1] rfl) rfl (Al 7 255 2 hc6 (h.pick [1] rfl) rfl (M1 2047 [8,9,10] 0 (h.pick [1] rfl) rfl ?_)))
  obtain ⟨y4,hy4,hF,he4,b4,_,q4,cs5,hp4,hq4,hr4,hc7⟩:=s3.ix hF
  obtain rfl:=qah hr4
  refine Ae 11 4095 hp4 hq4 he4 (h.pick [1] rfl) rfl (M0 8191 [12] (h.pick [1] rfl) rfl (Al 13 16383 1 hc7 (h.pick [1] rfl) rfl (M0 32767 [14] (h.pick [1] rfl) rfl (Aw 15 65535 (fun w' hw=>qb6 qb [0,1,2,3] [.const (.int .i64 (-1)),.tmp 51,.tmp 57,.tmp 64] rfl rfl rfl rfl rfl rfl rfl rfl) (h.pick [1] rfl) rfl ?_))))
  refine Ao 16 131071 rfl (qR qb [.tmp 65] _ ([(⟨(-1),i3,y3.Bn,(y4.Bl==1)⟩:Tl05Place)]:List Tl05Place) h rfl rfl rfl rfl rfl rfl rfl rfl rfl ⟨(qeN (⟨(-1),i3,y3.Bn,(y4.Bl==1)⟩:Tl05Place)),trivial⟩ rfl fun w9 p11 S7 h=>Ag (h.pick [2] rfl) (Ao 17 262143 rfl ?_))
  obtain ⟨x5,hx2,hF⟩:=qe hF
  obtain ⟨g2,hx2⟩:=qam hx2
  refine qcG qb 1 h rfl (h.sl 0 rfl).1 (h.sl 0 rfl).2 rfl rfl rfl rfl rfl rfl rfl rfl rfl g2 hx2 rfl fun w10 p12 k9 S8 h=>G0 524287 [18] (h.pick [2] rfl) rfl (Ad (X0 6 rfl ?_))
  replace h:=h.pick [1,2] rfl
  exact rK ⟨_,_,_,_,_,_,hF,rfl,h⟩ rfl
 refine qq rfl ?_
 obtain rfl:=qa hF;replace hF:=hK3
 refine X0 5 rfl ?_
 obtain rfl:=qa hF
 exact rO 0 h rfl ⟨rfl,trivial⟩
def qbB (net:Int) (r1:(List Tl05Place)):Nat→(List Int)→Int→Option ((List Int) × Int)
 | 0,_,_=>none
 | n+1,x1,i1 =>
  bif decide (i1<(r1.length:Int)) then
   (
    (idx r1 i1).bind fun y1 =>
    bif (y1.net==net) then
     (idx r1 i1).bind fun y2 =>
     some (!y2.drives)
    else
     some false).bind fun b1 =>
   bif b1 then
    (appS x1 ([i1]:List Int)).bind fun x2 =>
    qbB net r1 n x2 (W64 (i1+1))
   else
    qbB net r1 n x1 (W64 (i1+1))
  else
   some (x1,i1)
def qgK (n:Nat) (d:qc) (net:Int):Option (List Int) :=
 (qdj n d).bind fun r1 =>
 (qbB net r1 n ([]:List Int) 0).bind fun o=>match o with
 | (x1,_) =>
  some x1
theorem qkK {d:qc} {net:Int} (ha1:GoT.R w (old w) d cs1) {r:(List Int)} (hF:qgK n d net=some r):RetV Tryz.prog 90 [GoT.v qc cs1,.int .i64 net] w r:=by
 obtain ⟨p1,k1,p2,k2,p3,k3,rfl,s1,s2,s3⟩:=qK ha1
 refine zV 37 Tryz.func90 rfl fun h=>zSR (qr h rfl rfl fun w1 bb1 h=>X0 4 rfl (qR qb [] _ ([]:List Int) h rfl rfl rfl rfl rfl rfl rfl rfl rfl trivial rfl fun w2 p4 S1 h=>X1 5 1 h rfl (zcL h hF (qeY (h.old ha1)) rfl fun r1 w3 S2 p5 k4 h hF=>X0 7 rfl ?_)))
 obtain ⟨o1,hF,hK1⟩:=qe hF
 refine ql ?_
 replace h:=h.pick [0,1] rfl
 refine rL (fun m e w'=>∃ (S3:Nat→Prop) (p6:Option Addr) (ln1:Nat) (k5:Nat) (x1:(List Int)) (i1:Int),qbB net r1 m x1 i1=some o1∧e=[(1,.int .i64 net),(5,.slice p6 ln1 k5),(6,.slice p5 r1.length k4),(7,.int .i64 i1)]∧SH w w' [Ch.own S2 (r1:List Tl05Place) [.slice p5 r1.length k4],Ch.own S3 (x1:List Int) [.slice p6 ln1 k5]]) n ⟨_,_,_,_,_,_,hF,rfl,h⟩ rfl ?_
 rintro m1 e1 w4 ⟨S3,p6,ln1,k5,x1,i1,hF,rfl,h⟩
 obtain rfl:=(h.sl 1 rfl).2
 rcases m1 with _|m1
 ·cases hF
 refine X0 8 rfl (qg rfl hF ?_ ?_)<;>intro hF
 ·refine X0 4 rfl ?_
  obtain ⟨KF1,hKF1,o2,hF,hK2⟩:=bindE hF
  refine qbx (fun e w'=>∃ (b1:Bool),KF1 b1=some o1∧e=[(1,.int .i64 net),(5,.slice p6 x1.length k5),(6,.slice p5 r1.length k4),(7,.int .i64 i1),(31,.bool b1)]∧SH w w' [Ch.own S2 (r1:List Tl05Place) [.slice p5 r1.length k4],Ch.own S3 (x1:List Int) [.slice p6 x1.length k5]]) ?_ ?_
  ·refine X0 3 rfl ?_
   obtain ⟨y1,hy1,hF,he1,b2,_,q1,cs2,hp1,hq1,hr2,hc3⟩:=(h.sl 0 rfl).1.ix hF
   obtain rfl:=qd9 hr2
   refine zx hp1 hq1 ⟨he1.1,qI he1.2.1 (h.sl 0 rfl).2⟩ rfl (zp1 rfl (zc 2 hc3 rfl (zp3 rfl (qi (t:=24) hF rfl ?_ ?_))))<;>intro hF
   ·refine X0 5 rfl ?_
    obtain ⟨y2,hy2,hF,he2,b3,_,q2,cs3,hp2,hq2,hr3,hc4⟩:=(h.sl 0 rfl).1.ix hF
    obtain rfl:=qd9 hr3
    refine zx hp2 hq2 ⟨he2.1,qI he2.2.1 (h.sl 0 rfl).2⟩ rfl (X0 3 rfl (zc 3 hc4 rfl (X0 4 rfl ?_)))
    obtain rfl:=qa hF
    exact rG ⟨_,hK2,rfl,h⟩ rfl
   refine X0 8 rfl ?_
   obtain rfl:=qa hF
   exact rG ⟨_,hK2,rfl,h⟩ rfl
  rintro e2 w7 ⟨b1,hF,rfl,h⟩
  subst hKF1
  refine qg rfl hF ?_ ?_<;>intro hF
  ·refine X0 3 rfl (qR qb [.tmp 33] _ ([i1]:List Int) h rfl rfl rfl rfl rfl rfl rfl rfl rfl ⟨rfl,trivial⟩ rfl fun w5 p7 S4 h=>?_)
   obtain ⟨x2,hx1,hF⟩:=qe hF
   obtain ⟨g1,hx1⟩:=qam hx1
   refine qcG qb 2 h rfl (h.sl 0 rfl).1 (h.sl 0 rfl).2 rfl rfl rfl rfl rfl rfl rfl rfl rfl g1 hx1 rfl fun w6 p8 k6 S5 h=>X0 8 rfl ?_
   replace h:=h.pick [1,2] rfl
   exact rK ⟨_,_,_,_,_,_,hF,rfl,h⟩ rfl
  exact X0 7 rfl (rK ⟨_,_,_,_,_,_,hF,rfl,h⟩ rfl)
 refine qq rfl ?_
 obtain rfl:=qa hF;replace hF:=hK1
 refine X0 5 rfl ?_
 obtain rfl:=qa hF
 exact rO 1 h rfl ⟨rfl,trivial⟩
def qds (b:qm):Nat→Int→Option (Flow Bool Int)
 | 0,_=>none
 | n+1,i1 =>
  bif decide (i1<(b.Aj.length:Int)) then
   (idx b.Aj i1).bind fun y1 =>
   (qgK n (⟨b.Ab.Aa,b.Ab.Af,b.Ab.Ac⟩:qc) i1).bind fun r1 =>
   (qib n y1 (r1.length:Int)).bind fun r2 =>
   bif (!r2) then some (.ret false) else
   qds b n (W64 (i1+1))
  else
   some (.nxt i1)
def qhn (n:Nat) (b:qm):Option Bool :=
 (
  (qeQ n (⟨b.Ah.Ai⟩:qh) (⟨b.Ab.Aa,b.Ab.Af,b.Ab.Ac⟩:qc)).bind fun r3 =>
  bif (!r3) then some true else
  some ((b.Aj.length:Int) != (b.Ab.Af.length:Int))).bind fun b1 =>
 bif b1 then some false else
 (qds b n 0).bind fun o=>match o with
 | .ret r=>some r
 | .nxt _ =>
  some true
theorem qlA {b:qm} (ha1:GoT.R w (old w) b cs1) {r:Bool} (hF:qhn n b=some r):RetV Tryz.prog 45 [GoT.v qm cs1] w r:=by
 obtain ⟨p1,k1,p2,k2,p3,k3,p4,k4,p5,k5,rfl,s1,s2,s3,s4,s5⟩:=qaa ha1
 refine zV 39 Tryz.func45 rfl fun h=>zSR (qr h rfl rfl fun w1 bb1 h=>X0 4 rfl ?_)
 obtain ⟨KF1,hKF1,o2,hF,hK2⟩:=bindE hF
 refine qbx (fun e w'=>∃ (b1:Bool),KF1 b1=some r∧e=[(1,.pointer (some ⟨bb1,0,none⟩)),(19,.bool b1)]∧SH w w' [Ch.box bb1 (qaI b p1 p2 p3 p4 p5 k1 k2 k3 k4 k5) 48]) ?_ ?_
 ·refine X2 5 0 0 h rfl (zcB h hF (qgD (qaV _ (h.oldS s1)) (qai _ (h.oldS s2) (h.oldS s3) (h.oldS s4))) rfl fun r3 w6 h hF=>zp2 rfl (qi (t:=10) hF rfl ?_ ?_))<;>intro hF
  ·refine X0 10 rfl ?_
   obtain rfl:=qa hF
   exact rG ⟨_,hK2,rfl,h⟩ rfl
  refine X2 18 0 0 h rfl ?_
  obtain rfl:=qa hF
  exact rG ⟨_,hK2,rfl,h⟩ rfl
 rintro e2 w7 ⟨b1,hF,rfl,h⟩
 subst hKF1
 refine qg rfl hF ?_ ?_<;>intro hF
 ·exact X0 4 rfl (rb h hF rfl)
 refine X0 6 rfl ?_
 obtain ⟨o1,hF,hK1⟩:=qe hF
 refine ql (rL (fun m e w'=>∃ (i1:Int),qds b m i1=some o1∧e=[(1,.pointer (some ⟨bb1,0,none⟩)),(3,.int .i64 i1)]∧SH w w' [Ch.box bb1 (qaI b p1 p2 p3 p4 p5 k1 k2 k3 k4 k5) 48]) n ⟨_,hF,rfl,h⟩ rfl ?_)
 rintro m1 e1 w2 ⟨i1,hF,rfl,h⟩
 rcases m1 with _|m1
 ·cases hF
 refine X1 9 0 h rfl (qg rfl hF ?_ ?_)<;>intro hF
 ·refine X0 4 rfl (rA [] [0] h rfl fun w3 h=>M1 7 [0,1,2] 0 (h.pick [0] rfl) rfl ?_)
  obtain ⟨y1,hy1,hF,he1,b2,_,q1,cs2,hp1,hq1,hr1,hc3⟩:=s5.ix hF
  obtain ⟨p6,k6,p7,k7,p8,k8,p9,k9,rfl,s6,s7,s8,s9⟩:=qaU hr1
  refine Ae 3 15 hp1 hq1 he1 (h.pick [0] rfl) rfl (Al 4 31 0 hc3 (h.pick [0] rfl) rfl (M1 255 [5,6,7] 0 (h.pick [0] rfl) rfl (Ao 8 511 rfl (zcL h hF (qkK (qai _ (h.oldS s2) (h.oldS s3) (h.oldS s4))) rfl fun r1 w4 S1 p10 k10 h hF=>G0 1023 [9] (h.pick [1] rfl) rfl (Ao 10 2047 rfl (zcB h hF (qmb (qhD y1 (h.oldS s6) (h.oldS s7) (h.oldS s8) (h.oldS s9))) rfl fun r2 w5 h hF=>G0 4095 [11] (h.pick [1] rfl) rfl (Ad (qg rfl hF ?_ ?_))))))))<;>intro hF
  ·refine X0 4 rfl ?_
   obtain rfl:=qa hF;replace hF:=hK1
   exact rb h hF rfl
  refine X0 7 rfl ?_
  replace h:=h.pick [1] rfl
  exact rK ⟨_,hF,rfl,h⟩ rfl
 refine qq rfl ?_
 obtain rfl:=qa hF;replace hF:=hK1
 exact X0 4 rfl (rb h hF rfl)
def qar (_:Nat) (x:Int) (low:Int) (high:Int):Option Bool :=
 bif decide (x ≥ low) then some (decide (x≤high)) else
 some false
theorem qae {x:Int} {low:Int} {high:Int}  {r:Bool} (hF:qar n x low high=some r):RetV Tryz.prog 115 [.int .i64 x,.int .i64 low,.int .i64 high] w r:=by
 refine zV 15 Tryz.func115 rfl fun h=>X0 10 rfl (qi (t:=10) hF rfl ?_ ?_)<;>intro hF
 ·exact X0 9 rfl (rb h hF rfl)
 exact X0 6 rfl (rb h hF rfl)
def qf8 (_:Nat) (s cutset:ByteArray):Option ByteArray :=
 if s.size≤9223372036854775807∧cutset.size<4294967281∧cutset.data.toList.all (fun b=>decide (b.toNat<128))=true then some ⟨(Lib.trimS s.data.toList cutset.data.toList).toArray⟩ else none
theorem qls {s cutset:ByteArray} {r:ByteArray} (hF:qf8 n s cutset=some r):RetV Tryz.prog 212 [.string s,.string cutset] w r:=by
 unfold qf8 at hF
 split at hF
 ·rename_i hh
  obtain rfl:=qa hF
  refine (Tryz.strings_Trim_any s cutset w hh.1 hh.2.1 hh.2.2).mono ?_
  rintro e w' ⟨rfl,hB⟩
  exact ⟨_,rfl,hB,[.string _],rfl,qeU _ _⟩
 cases hF
def qe1 (_:Nat) (s:ByteArray) (c:(IntK .u8)):Option Int :=
 some (Lib.indexByte s.data.toList c.val.toNat.toUInt8)
theorem qjc {s:ByteArray} {c:(IntK .u8)} {r:Int} (hF:qe1 n s c=some r):RetV Tryz.prog 213 [.string s,.int .u8 c.val] w r:=by
 obtain rfl:=qa hF
 refine (Tryz.strings_IndexByte s c.val w).mono ?_
 rintro e w' ⟨rfl,rfl⟩
 exact ⟨_,rfl,Below.refl _ _,[.int .i64 _],rfl,qqS _ _⟩
def qgZ (n:Nat) (s:ByteArray):Option Bool :=
 (qar n (s.size:Int) 1 8).bind fun r1 =>
 bif r1 then
  (qf8 n s (⟨#[97,98,99,100,101,102,103,104,105,106,107,108,109,110,111,112,113,114,115,116,117,118,119,120,121,122,48,49,50,51,52,53,54,55,56,57]⟩:ByteArray)).bind fun r2 =>
  bif (r2.toList==(⟨#[]⟩:ByteArray).toList) then
   (atS s 0).bind fun y1 =>
   (qe1 n (⟨#[97,98,99,100,101,102,103,104,105,106,107,108,109,110,111,112,113,114,115,116,117,118,119,120,121,122]⟩:ByteArray) (⟨y1⟩:IntK .u8)).bind fun r3 =>
   some (decide (r3 ≥ 0))
  else
   some false
 else
  some false
theorem qji {s:ByteArray}  {r:Bool} (hF:qgZ n s=some r):RetV Tryz.prog 177 [.string s] w r:=by
 refine zV 17 Tryz.func177 rfl fun h=>X0 8 rfl (zcB h hF qae rfl fun r1 w1 h hF=>zp1 rfl (qi (t:=6) hF rfl ?_ ?_))<;>intro hF
 ·refine X0 3 rfl (zcS h hF qls rfl fun r2 w2 h hF=>X0 4 rfl (qi (t:=11) hF rfl ?_ ?_))<;>intro hF
  ·refine X0 3 rfl ?_
   obtain ⟨y1,hx1,hF⟩:=qe hF
   have g1:=qfG hx1
   exact r_v (qfH qb g1 rfl rfl rfl rfl) rfl (X0 1 rfl (zcI h hF qjc rfl fun r3 w3 h hF=>X0 5 rfl (rb h hF rfl)))
  exact X0 7 rfl (rb h hF rfl)
 exact X0 12 rfl (rb h hF rfl)
def qax (s:(List ByteArray)) (v:ByteArray):Nat→Int→Option (Flow Int Int)
 | 0,_=>none
 | n+1,i1 =>
  bif decide (i1<(s.length:Int)) then
   (idx s i1).bind fun y1 =>
   bif (v.toList==y1.toList) then some (.ret i1) else
   qax s v n (W64 (i1+1))
  else
   some (.nxt i1)
def qa1 (n:Nat) (s:(List ByteArray)) (v:ByteArray):Option Int :=
 (qax s v n 0).bind fun o=>match o with
 | .ret r=>some r
 | .nxt _ =>
  some (-1)
theorem qev {s:(List ByteArray)} {v:ByteArray} (ha1:GoT.R w (old w) s cs1) {r:Int} (hF:qa1 n s v=some r):RetV Tryz.prog 92 [GoT.v (List ByteArray) cs1,.string v] w r:=by
 obtain ⟨p1,k1,rfl,s1⟩:=ha1
 refine zV 19 Tryz.func92 rfl fun h=>X0 11 rfl ?_
 obtain ⟨o1,hF,hK1⟩:=qe hF
 refine ql (rL (fun m e w'=>∃ (i1:Int),qax s v m i1=some o1∧e=[(0,.slice p1 s.length k1),(1,.string v),(7,.int .i64 (s.length:Int)),(8,.int .i64 i1)]∧SH w w' []) n ⟨_,hF,rfl,h⟩ rfl ?_)
 rintro m1 e1 w1 ⟨i1,hF,rfl,h⟩
 rcases m1 with _|m1
 ·cases hF
 refine X0 5 rfl (qg rfl hF ?_ ?_)<;>intro hF
 ·refine X0 13 rfl ?_
  obtain ⟨y1,hy1,hF,he1,b1,_,q1,cs2,hp1,hq1,rfl,hc2⟩:=s1.ix hF
  refine zxe hp1 hq1 he1 rfl (zc 0 (hc2.below h.below) rfl (X0 2 rfl (qg rfl hF ?_ ?_)))<;>intro hF
  ·refine X0 5 rfl ?_
   obtain rfl:=qa hF;replace hF:=hK1
   exact ri h hF rfl
  exact X0 6 rfl (rK ⟨_,hF,rfl,h⟩ rfl)
 refine qq rfl ?_
 obtain rfl:=qa hF;replace hF:=hK1
 exact X0 4 rfl (ri h hF rfl)
def qcX (n:Nat) (s:(List ByteArray)) (v:ByteArray):Option Bool :=
 (qa1 n s v).bind fun r1 =>
 some (decide (r1 ≥ 0))
theorem qhZ {s:(List ByteArray)} {v:ByteArray} (ha1:GoT.R w (old w) s cs1) {r:Bool} (hF:qcX n s v=some r):RetV Tryz.prog 181 [GoT.v (List ByteArray) cs1,.string v] w r:=by
 obtain ⟨p1,k1,rfl,s1⟩:=ha1
 exact zV 9 Tryz.func181 rfl fun h=>X0 8 rfl (zcI h hF (qev ⟨_,_,rfl,(h.oldS s1)⟩) rfl fun r1 w1 h hF=>X0 3 rfl (rb h hF rfl))
def qc1 (list:(List ByteArray)):Nat→Int→Option (Flow Bool Int)
 | 0,_=>none
 | n+1,i1 =>
  bif decide (i1<(list.length:Int)) then
   (idx list i1).bind fun y1 =>
   (qgZ n y1).bind fun r1 =>
   bif (!r1) then some (.ret false) else
   (subS list 0 i1).bind fun x1 =>
   (qcX n x1 y1).bind fun r2 =>
   bif r2 then some (.ret false) else
   qc1 list n (W64 (i1+1))
  else
   some (.nxt i1)
def qcZ (n:Nat) (list:(List ByteArray)):Option Bool :=
 (qc1 list n 0).bind fun o=>match o with
 | .ret r=>some r
 | .nxt _ =>
  some true
theorem qeh {list:(List ByteArray)} (ha1:GoT.R w (old w) list cs1) {r:Bool} (hF:qcZ n list=some r):RetV Tryz.prog 150 [GoT.v (List ByteArray) cs1] w r:=by
 obtain ⟨p1,k1,rfl,s1⟩:=ha1
 refine zV 23 Tryz.func150 rfl fun h=>X0 11 rfl ?_
 obtain ⟨o1,hF,hK1⟩:=qe hF
 refine ql (rL (fun m e w'=>∃ (i1:Int),qc1 list m i1=some o1∧e=[(0,.slice p1 list.length k1),(5,.slice p1 list.length k1),(6,.int .i64 (list.length:Int)),(7,.int .i64 i1)]∧SH w w' []) n ⟨_,hF,rfl,h⟩ rfl ?_)
 rintro m1 e1 w1 ⟨i1,hF,rfl,h⟩
 rcases m1 with _|m1
 ·cases hF
 refine X0 5 rfl (qg rfl hF ?_ ?_)<;>intro hF
 ·refine X0 6 rfl ?_
  obtain ⟨y1,hy1,hF,he1,b1,_,q1,cs2,hp1,hq1,rfl,hc2⟩:=s1.ix hF
  refine zxe hp1 hq1 he1 rfl (zc 0 (hc2.below h.below) rfl (X0 6 rfl (zcB h hF qji rfl fun r1 w2 h hF=>zp2 rfl (qi (t:=15) hF rfl ?_ ?_))))<;>intro hF
  ·refine X0 7 rfl (qdp rfl rfl (X0 4 rfl ?_))
   obtain rfl:=qa hF;replace hF:=hK1
   exact rb h hF rfl
  refine X0 5 rfl ?_
  obtain ⟨x1,hx1,hF⟩:=qe hF
  obtain ⟨p2,k2,hp2,hk1,hl1,g1⟩:=qnA (h.oldS s1) hx1
  refine r_v (qkh qb rfl rfl rfl (qnF g1 rfl) hp2 hk1 hl1 rfl rfl rfl rfl) rfl ?_
  have s2:=qn1 s1 hx1 hp2 hk1
  refine X0 3 rfl (zcB h hF (qhZ ⟨_,_,rfl,(h.oldS s2)⟩) rfl fun r2 w3 h hF=>X0 2 rfl (qg rfl hF ?_ ?_))<;>intro hF
  ·refine X0 4 rfl ?_
   obtain rfl:=qa hF;replace hF:=hK1
   exact rb h hF rfl
  exact X0 6 rfl (rK ⟨_,hF,rfl,h⟩ rfl)
 refine qq rfl ?_
 obtain rfl:=qa hF;replace hF:=hK1
 exact X0 4 rfl (rb h hF rfl)
def qbG (_:Nat) (list:(List qM)):Option Int :=
 some (list.length:Int)
theorem qfY {list:(List qM)} (ha1:GoT.R w (old w) list cs1) {r:Int} (hF:qbG n list=some r):RetV Tryz.prog 214 [GoT.v (List qM) cs1] w r:=by
 obtain ⟨p1,k1,rfl,s1⟩:=ha1
 exact zV 5 Tryz.func214 rfl fun h=>X0 10 rfl (ri h hF rfl)
def qb4 (list:(List qM)):Nat→(List ByteArray)→Int→Option (Flow Bool ((List ByteArray) × Int))
 | 0,_,_=>none
 | n+1,x1,i1 =>
  bif decide (i1<(list.length:Int)) then
   (idx list i1).bind fun y1 =>
   (appS x1 ([y1.Aq]:List ByteArray)).bind fun x2 =>
   bif (i1==(W64 ((list.length:Int)-1))) then
    bif (y1.Bl != 2) then some (.ret false) else
    bif (y1.Bk != 0) then some (.ret false) else
    bif y1.Be then some (.ret false) else
    qb4 list n x2 (W64 (i1+1))
   else
    bif (y1.Bl != 1) then some (.ret false) else
    (qar n y1.Bk 0 500).bind fun r1 =>
    bif (!r1) then some (.ret false) else
    qb4 list n x2 (W64 (i1+1))
  else
   some (.nxt (x1,i1))
def qhj (n:Nat) (list:(List qM)):Option Bool :=
 (qb4 list n ([]:List ByteArray) 0).bind fun o=>match o with
 | .ret r=>some r
 | .nxt (x1,_) =>
  (qbG n list).bind fun r2 =>
  (qar n r2 2 5).bind fun r3 =>
  bif r3 then
   (qcZ n x1).bind fun r4 =>
   some r4
  else
   some false
theorem qlw {list:(List qM)} (ha1:GoT.R w (old w) list cs1) {r:Bool} (hF:qhj n list=some r):RetV Tryz.prog 178 [GoT.v (List qM) cs1] w r:=by
 obtain ⟨p1,k1,rfl,s1⟩:=ha1
 refine zV 52 Tryz.func178 rfl fun h=>X0 15 rfl ?_
 replace h:=h.nil (α:=ByteArray)
 obtain ⟨o1,hF,hK1⟩:=qe hF
 refine ql (rL (fun m e w'=>∃ (S1:Nat→Prop) (p2:Option Addr) (ln1:Nat) (k2:Nat) (x1:(List ByteArray)) (i1:Int),qb4 list m x1 i1=some o1∧e=[(0,.slice p1 list.length k1),(3,.slice p2 ln1 k2),(6,.slice p1 list.length k1),(7,.int .i64 (list.length:Int)),(8,.int .i64 i1)]∧SH w w' [Ch.own S1 (x1:List ByteArray) [.slice p2 ln1 k2]]) n ⟨_,_,_,_,_,_,hF,rfl,h⟩ rfl ?_)
 rintro m1 e1 w1 ⟨S1,p2,ln1,k2,x1,i1,hF,rfl,h⟩
 obtain rfl:=(h.sl 0 rfl).2
 rcases m1 with _|m1
 ·cases hF
 refine X0 5 rfl (qg rfl hF ?_ ?_)<;>intro hF
 ·refine X0 6 rfl ?_
  obtain ⟨y1,hy1,hF,he1,b1,_,q1,cs2,hp1,hq1,hr1,hc2⟩:=s1.ix hF
  obtain rfl:=qao hr1
  refine zxe hp1 hq1 he1 rfl (zc 0 (hc2.below h.below) rfl (qB qb h rfl rfl rfl fun w2 bb1 h=>zp1 rfl (zs 0 h rfl fun w3 h=>X1 6 0 h rfl (qR qb [.tmp 15] _ ([y1.Aq]:List ByteArray) h rfl rfl rfl rfl rfl rfl rfl rfl rfl ⟨rfl,trivial⟩ rfl fun w4 p3 S2 h=>?_))))
  obtain ⟨x2,hx1,hF⟩:=qe hF
  obtain ⟨g1,hx1⟩:=qam hx1
  refine qcG qb 2 h rfl (h.sl 0 rfl).1 (h.sl 0 rfl).2 rfl rfl rfl rfl rfl rfl rfl rfl rfl g1 hx1 rfl fun w5 p4 k3 S3 h=>X0 10 rfl (qg rfl hF ?_ ?_)<;>intro hF
  ·refine X1 6 1 h rfl (qi (t:=26) hF rfl ?_ ?_)<;>intro hF
   ·refine X0 9 rfl (qdp rfl rfl (X0 4 rfl ?_))
    obtain rfl:=qa hF;replace hF:=hK1
    exact rb h hF rfl
   refine X1 8 1 h rfl (qi (t:=31) hF rfl ?_ ?_)<;>intro hF
   ·refine X0 4 rfl (qdp rfl rfl (X0 4 rfl ?_))
    obtain rfl:=qa hF;replace hF:=hK1
    exact rb h hF rfl
   refine X1 6 1 h rfl (qg rfl hF ?_ ?_)<;>intro hF
   ·refine X0 4 rfl ?_
    obtain rfl:=qa hF;replace hF:=hK1
    exact rb h hF rfl
   refine X0 6 rfl ?_
   replace h:=h.pick [2] rfl
   exact rK ⟨_,_,_,_,_,_,hF,rfl,h⟩ rfl
  refine X1 6 1 h rfl (qi (t:=38) hF rfl ?_ ?_)<;>intro hF
  ·refine X0 6 rfl (qdp rfl rfl (X0 4 rfl ?_))
   obtain rfl:=qa hF;replace hF:=hK1
   exact rb h hF rfl
  refine X1 5 1 h rfl (zcB h hF qae rfl fun r1 w6 h hF=>X0 4 rfl (qg rfl hF ?_ ?_))<;>intro hF
  ·refine X0 4 rfl ?_
   obtain rfl:=qa hF;replace hF:=hK1
   exact rb h hF rfl
  refine X0 6 rfl ?_
  replace h:=h.pick [2] rfl
  exact rK ⟨_,_,_,_,_,_,hF,rfl,h⟩ rfl
 refine qq rfl ?_
 obtain rfl:=qa hF;replace hF:=hK1
 refine X0 3 rfl (zcI h hF (qfY ⟨_,_,rfl,(h.oldS s1)⟩) rfl fun r2 w7 h hF=>zcB h hF qae rfl fun r3 w8 h hF=>zp1 rfl (qi (t:=48) hF rfl ?_ ?_))<;>intro hF
 ·exact X0 3 rfl (zcB h hF (qeh (h.own 0 rfl)) rfl fun r4 w9 h hF=>X0 3 rfl (rb h hF rfl))
 exact X0 5 rfl (rb h hF rfl)
def qdb (n:Nat) (c:qn):Option Int :=
 (qbG n c.Am).bind fun r1 =>
 some (W64 (r1-1))
theorem qfA {c:qn} (ha1:GoT.R w (old w) c cs1) {r:Int} (hF:qdb n c=some r):RetV Tryz.prog 218 [GoT.v qn cs1] w r:=by
 obtain ⟨p1,k1,p2,k2,p3,k3,rfl,s1,s2,s3⟩:=qL ha1
 exact zV 7 Tryz.func218 rfl fun h=>zSR (qr h rfl rfl fun w1 bb1 h=>X1 6 0 h rfl (zcI h hF (qfY ⟨_,_,rfl,(h.oldS s1)⟩) rfl fun r1 w2 h hF=>X0 3 rfl (ri h hF rfl)))
def qhl (_:Nat) (kind:Int):Option Bool :=
 bif (kind==4) then some true else
 some (kind==5)
theorem qlE {kind:Int}  {r:Bool} (hF:qhl n kind=some r):RetV Tryz.prog 246 [.int .i64 kind] w r:=by
 refine zV 9 Tryz.func246 rfl fun h=>X0 9 rfl (qi (t:=5) hF rfl ?_ ?_)<;>intro hF
 ·exact X0 5 rfl (rb h hF rfl)
 exact X0 7 rfl (rb h hF rfl)
def qfs (n:Nat) (a_n:Int) (v0:Int) (v1:Int):Option Bool :=
 (qar n a_n v0 v1).bind fun r1 =>
 some (!r1)
theorem qjN {a_n:Int} {v0:Int} {v1:Int} {p1:Option Addr} (ha1:GoT.R w (old w) (some v0) [.pointer p1]) {p2:Option Addr} (ha2:GoT.R w (old w) (some v1) [.pointer p2]) {r:Bool} (hF:qfs n a_n v0 v1=some r):RetV Tryz.prog 123 [.int .i64 a_n,.pointer p1,.pointer p2] w r:=by
 obtain ⟨b1,o_1,cs1,rfl,-,hr1,hc1⟩:=PtR.get ha1 rfl
 obtain rfl:=hr1
 obtain ⟨b2,o_2,cs2,rfl,-,hr2,hc2⟩:=PtR.get ha2 rfl
 obtain rfl:=hr2
 exact zV 10 Tryz.func123 rfl fun h=>X0 7 rfl (zc 0 (hc1.below h.below) rfl (zc 0 (hc2.below h.below) rfl (zcB h hF qae rfl fun r1 w1 h hF=>X0 3 rfl (rb h hF rfl))))
def qJ (s:(List Int)) (f_0:Int) (f_1:Int):Nat→Int→Option (Flow Int Int)
 | 0,_=>none
 | n+1,i1 =>
  bif decide (i1<(s.length:Int)) then
   (idx s i1).bind fun y1 =>
   (qfs n y1 f_0 f_1).bind fun r1 =>
   bif r1 then some (.ret i1) else
   qJ s f_0 f_1 n (W64 (i1+1))
  else
   some (.nxt i1)
def qas (n:Nat) (s:(List Int)) (f_0:Int) (f_1:Int):Option Int :=
 (qJ s f_0 f_1 n 0).bind fun o=>match o with
 | .ret r=>some r
 | .nxt _ =>
  some (-1)
theorem qep {s:(List Int)} {f_0:Int} {f_1:Int} (ha1:GoT.R w (old w) s cs1) {p2:Option Addr} (ha2:GoT.R w (old w) (some f_0) [.pointer p2]) {p3:Option Addr} (ha3:GoT.R w (old w) (some f_1) [.pointer p3]) {r:Int} (hF:qas n s f_0 f_1=some r):RetV Tryz.prog 155 [GoT.v (List Int) cs1,.func (.func 123) #[] #[.pointer p2,.pointer p3]] w r:=by
 obtain ⟨p1,k1,rfl,s1⟩:=ha1
 obtain ⟨b1,o_1,cs2,rfl,-,hr1,hc1⟩:=PtR.get ha2 rfl
 obtain rfl:=hr1
 obtain ⟨b2,o_2,cs3,rfl,-,hr2,hc2⟩:=PtR.get ha3 rfl
 obtain rfl:=hr2
 refine zV 19 Tryz.func155 rfl fun h=>X0 11 rfl ?_
 obtain ⟨o1,hF,hK1⟩:=qe hF
 refine ql (rL (fun m e w'=>∃ (i1:Int),qJ s f_0 f_1 m i1=some o1∧e=[(0,.slice p1 s.length k1),(1,.func (.func 123) #[] #[.pointer (some ⟨b1,o_1,none⟩),.pointer (some ⟨b2,o_2,none⟩)]),(7,.int .i64 (s.length:Int)),(8,.int .i64 i1)]∧SH w w' []) n ⟨_,hF,rfl,h⟩ rfl ?_)
 rintro m1 e1 w1 ⟨i1,hF,rfl,h⟩
 rcases m1 with _|m1
 ·cases hF
 refine X0 5 rfl (qg rfl hF ?_ ?_)<;>intro hF
 ·refine X0 13 rfl ?_
  obtain ⟨y1,hy1,hF,he1,b3,_,q1,cs4,hp1,hq1,rfl,hc4⟩:=s1.ix hF
  refine zxe hp1 hq1 he1 rfl (zc 0 (hc4.below h.below) rfl (zcB h hF (qjN (h.old ha2) (h.old ha3)) rfl fun r1 w2 h hF=>qdk (qg rfl hF ?_ ?_)))<;>intro hF
  ·refine X0 5 rfl ?_
   obtain rfl:=qa hF;replace hF:=hK1
   exact ri h hF rfl
  exact X0 6 rfl (rK ⟨_,hF,rfl,h⟩ rfl)
 refine qq rfl ?_
 obtain rfl:=qa hF;replace hF:=hK1
 exact X0 4 rfl (ri h hF rfl)
def qaS (n:Nat) (s:(List Int)) (f_0:Int) (f_1:Int):Option Bool :=
 (qas n s f_0 f_1).bind fun r1 =>
 some (decide (r1 ≥ 0))
theorem qdX {s:(List Int)} {f_0:Int} {f_1:Int} (ha1:GoT.R w (old w) s cs1) {p2:Option Addr} (ha2:GoT.R w (old w) (some f_0) [.pointer p2]) {p3:Option Addr} (ha3:GoT.R w (old w) (some f_1) [.pointer p3]) {r:Bool} (hF:qaS n s f_0 f_1=some r):RetV Tryz.prog 122 [GoT.v (List Int) cs1,.func (.func 123) #[] #[.pointer p2,.pointer p3]] w r:=by
 obtain ⟨p1,k1,rfl,s1⟩:=ha1
 obtain ⟨b1,o_1,cs2,rfl,-,hr1,hc1⟩:=PtR.get ha2 rfl
 obtain rfl:=hr1
 obtain ⟨b2,o_2,cs3,rfl,-,hr2,hc2⟩:=PtR.get ha3 rfl
 obtain rfl:=hr2
 exact zV 9 Tryz.func122 rfl fun h=>X0 8 rfl (zcI h hF (qep ⟨_,_,rfl,(h.oldS s1)⟩ (h.old ha2) (h.old ha3)) rfl fun r1 w1 h hF=>X0 3 rfl (rb h hF rfl))
def qbe (n:Nat) (list:(List Int)) (low:Int) (high:Int):Option Bool :=
 (qaS n list low high).bind fun r1 =>
 some (!r1)
theorem qbJ {list:(List Int)} {low:Int} {high:Int} (ha1:GoT.R w (old w) list cs1) {r:Bool} (hF:qbe n list low high=some r):RetV Tryz.prog 76 [GoT.v (List Int) cs1,.int .i64 low,.int .i64 high] w r:=by
 obtain ⟨p1,k1,rfl,s1⟩:=ha1
 exact zV 11 Tryz.func76 rfl fun h=>zSR (qr h rfl rfl fun w1 bb1 h=>qr h rfl rfl fun w2 bb2 h=>X0 6 rfl (zcB h hF (qdX ⟨_,_,rfl,(h.oldS s1)⟩ (qga (x:=low) 1 h rfl rfl) (qga (x:=high) 0 h rfl rfl)) rfl fun r1 w3 h hF=>X0 3 rfl (rb h hF rfl)))
def qaN (_:Nat) (list:(List Int)):Option Int :=
 some (list.length:Int)
theorem qbH {list:(List Int)} (ha1:GoT.R w (old w) list cs1) {r:Int} (hF:qaN n list=some r):RetV Tryz.prog 73 [GoT.v (List Int) cs1] w r:=by
 obtain ⟨p1,k1,rfl,s1⟩:=ha1
 exact zV 5 Tryz.func73 rfl fun h=>X0 10 rfl (ri h hF rfl)
def qaQ (list:(List Int)):Nat→Int→Option (Flow Bool Int)
 | 0,_=>none
 | n+1,i1 =>
  bif decide (i1<(list.length:Int)) then
   (idx list (W64 (i1-1))).bind fun y1 =>
   (idx list i1).bind fun y2 =>
   bif decide (y1 ≥ y2) then some (.ret false) else
   qaQ list n (W64 (i1+1))
  else
   some (.nxt i1)
def qcv (n:Nat) (list:(List Int)):Option Bool :=
 (qaQ list n 1).bind fun o=>match o with
 | .ret r=>some r
 | .nxt _ =>
  some true
theorem qfa {list:(List Int)} (ha1:GoT.R w (old w) list cs1) {r:Bool} (hF:qcv n list=some r):RetV Tryz.prog 79 [GoT.v (List Int) cs1] w r:=by
 obtain ⟨p1,k1,rfl,s1⟩:=ha1
 refine zV 20 Tryz.func79 rfl fun h=>X0 9 rfl ?_
 obtain ⟨o1,hF,hK1⟩:=qe hF
 refine ql (rL (fun m e w'=>∃ (i1:Int),qaQ list m i1=some o1∧e=[(0,.slice p1 list.length k1),(3,.int .i64 i1)]∧SH w w' []) n ⟨_,hF,rfl,h⟩ rfl ?_)
 rintro m1 e1 w1 ⟨i1,hF,rfl,h⟩
 rcases m1 with _|m1
 ·cases hF
 refine X0 8 rfl (qg rfl hF ?_ ?_)<;>intro hF
 ·refine X0 4 rfl (rD (zd3 rfl ?_))
  obtain ⟨y1,hy1,hF,he1,b1,_,q1,cs2,hp1,hq1,rfl,hc2⟩:=s1.ix hF
  refine zdxe hp1 hq1 he1 rfl (zdc 0 (hc2.below h.below) rfl (zd2 rfl ?_))
  obtain ⟨y2,hy2,hF,he2,b2,_,q2,cs3,hp2,hq2,rfl,hc3⟩:=s1.ix hF
  refine zdxe hp2 hq2 he2 rfl (zdc 0 (hc3.below h.below) rfl (zd1 rfl (dN h fun w2 h=>qg rfl hF ?_ ?_)))<;>intro hF
  ·refine X0 4 rfl ?_
   obtain rfl:=qa hF;replace hF:=hK1
   exact rb h hF rfl
  exact X0 7 rfl (rK ⟨_,hF,rfl,h⟩ rfl)
 refine qq rfl ?_
 obtain rfl:=qa hF;replace hF:=hK1
 exact X0 4 rfl (rb h hF rfl)
def qgX (n:Nat) (list:(List Int)):Option Bool :=
 (qaN n list).bind fun r1 =>
 (qar n r1 1 4).bind fun r2 =>
 bif r2 then
  (qbe n list 0 100000).bind fun r3 =>
  bif r3 then
   (qcv n list).bind fun r4 =>
   some r4
  else
   some false
 else
  some false
theorem qjA {list:(List Int)} (ha1:GoT.R w (old w) list cs1) {r:Bool} (hF:qgX n list=some r):RetV Tryz.prog 273 [GoT.v (List Int) cs1] w r:=by
 obtain ⟨p1,k1,rfl,s1⟩:=ha1
 refine zV 14 Tryz.func273 rfl fun h=>X0 7 rfl (zcI h hF (qbH ⟨_,_,rfl,(h.oldS s1)⟩) rfl fun r1 w1 h hF=>zcB h hF qae rfl fun r2 w2 h hF=>zp1 rfl (qi (t:=6) hF rfl ?_ ?_))<;>intro hF
 ·refine X0 3 rfl (zcB h hF (qbJ ⟨_,_,rfl,(h.oldS s1)⟩) rfl fun r3 w3 h hF=>zp2 rfl (qi (t:=10) hF rfl ?_ ?_))<;>intro hF
  ·exact X0 3 rfl (zcB h hF (qfa ⟨_,_,rfl,(h.oldS s1)⟩) rfl fun r4 w4 h hF=>X0 3 rfl (rb h hF rfl))
  exact X0 5 rfl (rb h hF rfl)
 exact X0 9 rfl (rb h hF rfl)
def qhq (n:Nat) (t:qp):Option Bool :=
 (qgX n t.Bb).bind fun r1 =>
 bif r1 then
  (qgX n t.Ba).bind fun r2 =>
  bif r2 then
   bif ((t.Au.length:Int)==(W64 ((t.Bb.length:Int)*(t.Ba.length:Int)))) then
    (qbe n t.Au (-1000000) 1000000).bind fun r3 =>
    some r3
   else
    some false
  else
   some false
 else
  some false
theorem qlx {t:qp} (ha1:GoT.R w (old w) t cs1) {r:Bool} (hF:qhq n t=some r):RetV Tryz.prog 264 [GoT.v qp cs1] w r:=by
 obtain ⟨p1,k1,p2,k2,p3,k3,rfl,s1,s2,s3⟩:=qaP ha1
 refine zV 29 Tryz.func264 rfl fun h=>zSR (qr h rfl rfl fun w1 bb1 h=>X1 6 0 h rfl (zcB h hF (qjA ⟨_,_,rfl,(h.oldS s1)⟩) rfl fun r1 w2 h hF=>zp1 rfl (qi (t:=6) hF rfl ?_ ?_)))<;>intro hF
 ·refine X1 5 0 h rfl (zcB h hF (qjA ⟨_,_,rfl,(h.oldS s2)⟩) rfl fun r2 w3 h hF=>zp2 rfl (qi (t:=11) hF rfl ?_ ?_))<;>intro hF
  ·refine X3 24 0 0 0 h rfl (qi (t:=24) hF rfl ?_ ?_)<;>intro hF
   ·exact X1 5 0 h rfl (zcB h hF (qbJ ⟨_,_,rfl,(h.oldS s3)⟩) rfl fun r3 w4 h hF=>X0 3 rfl (rb h hF rfl))
   exact X0 6 rfl (rb h hF rfl)
  exact X0 19 rfl (rb h hF rfl)
 exact X0 24 rfl (rb h hF rfl)
def qbY (x:(List Int)):Nat→Int→Int→Option (Int × Int)
 | 0,_,_=>none
 | n+1,i1,i2 =>
  bif decide (i2<(x.length:Int)) then
   (idx x i2).bind fun y2 =>
   qbY x n (if y2<i1 then y2 else i1) (W64 (i2+1))
  else
   some (i1,i2)
def qfr (n:Nat) (x:(List Int)):Option Int :=
 (
  bif decide ((x.length:Int)<1) then none else
  some ()).bind fun _ =>
 (idx x 0).bind fun y1 =>
 (qbY x n y1 1).bind fun o=>match o with
 | (i1,_) =>
  some i1
theorem qjP {x:(List Int)} (ha1:GoT.R w (old w) x cs1) {r:Int} (hF:qfr n x=some r):RetV Tryz.prog 265 [GoT.v (List Int) cs1] w r:=by
 obtain ⟨p1,k1,rfl,s1⟩:=ha1
 refine zV 25 Tryz.func265 rfl fun h=>X0 11 rfl ?_
 obtain ⟨KF1,hKF1,o2,hF,hK2⟩:=bindE hF
 refine qbx (fun e w'=>KF1 ()=some r∧e=[(0,.slice p1 x.length k1)]∧SH w w' []) ?_ ?_
 ·refine qg rfl hF ?_ ?_<;>intro hF
  ·refine qis ?_
   cases hF
  refine qeT ?_
  obtain rfl:=qa hF
  exact rG ⟨hK2,rfl,h⟩ rfl
 rintro e2 w2 ⟨hF,rfl,h⟩
 subst hKF1
 refine X0 3 rfl ?_
 obtain ⟨y1,hy1,hF,he1,b1,_,q1,cs2,hp1,hq1,rfl,hc1⟩:=s1.ix hF
 refine zxe hp1 hq1 he1 rfl (zc 0 (hc1.below h.below) rfl (X0 7 rfl ?_))
 obtain ⟨o1,hF,hK1⟩:=qe hF
 refine ql (rL (fun m e w'=>∃ (i1:Int) (i2:Int),qbY x m i1 i2=some o1∧e=[(0,.slice p1 x.length k1),(3,.int .i64 i1),(4,.int .i64 i2)]∧SH w w' []) n ⟨_,_,hF,rfl,h⟩ rfl ?_)
 rintro m1 e1 w1 ⟨i1,i2,hF,rfl,h⟩
 rcases m1 with _|m1
 ·cases hF
 refine X0 8 rfl (qg rfl hF ?_ ?_)<;>intro hF
 ·refine X0 7 rfl ?_
  obtain ⟨y2,hy2,hF,he2,b2,_,q2,cs3,hp2,hq2,rfl,hc3⟩:=s1.ix hF
  exact zxe hp2 hq2 he2 rfl (zc 0 (hc3.below h.below) rfl (X0 9 rfl (rK ⟨_,_,hF,rfl,h⟩ rfl)))
 refine qq rfl ?_
 obtain rfl:=qa hF;replace hF:=hK1
 exact X0 5 rfl (ri h hF rfl)
def qfq (n:Nat) (t:qp) (v0:Bool):Option Bool :=
 (qhq n t).bind fun r1 =>
 bif (!r1) then some true else
 bif v0 then
  (qfr n t.Au).bind fun r2 =>
  some (decide (r2<0))
 else
  some false
theorem qjQ {t:qp} {v0:Bool} (ha1:GoT.R w (old w) t cs1) {p4:Option Addr} (ha2:GoT.R w (old w) (some v0) [.pointer p4]) {r:Bool} (hF:qfq n t v0=some r):RetV Tryz.prog 263 [GoT.v qp cs1,.pointer p4] w r:=by
 obtain ⟨p1,k1,p2,k2,p3,k3,rfl,s1,s2,s3⟩:=qaP ha1
 obtain ⟨b1,o_1,cs2,rfl,-,hr1,hc1⟩:=PtR.get ha2 rfl
 obtain rfl:=hr1
 refine zV 16 Tryz.func263 rfl fun h=>zSR (qr h rfl rfl fun w1 bb1 h=>X1 5 0 h rfl (zcB h hF (qlx (h.old ha1)) rfl fun r1 w2 h hF=>zp2 rfl (qi (t:=7) hF rfl ?_ ?_)))<;>intro hF
 ·exact X0 10 rfl (rb h hF rfl)
 refine X0 1 rfl (zc 0 (hc1.below h.below) rfl (X0 2 rfl (qi (t:=9) hF rfl ?_ ?_)))<;>intro hF
 ·exact X1 5 0 h rfl (zcI h hF (qjP ⟨_,_,rfl,(h.oldS s3)⟩) rfl fun r2 w3 h hF=>X0 7 rfl (rb h hF rfl))
 exact X0 9 rfl (rb h hF rfl)
def qA (s:(List qp)) (f_0:Bool):Nat→Int→Option (Flow Int Int)
 | 0,_=>none
 | n+1,i1 =>
  bif decide (i1<(s.length:Int)) then
   (idx s i1).bind fun y1 =>
   (qfq n y1 f_0).bind fun r1 =>
   bif r1 then some (.ret i1) else
   qA s f_0 n (W64 (i1+1))
  else
   some (.nxt i1)
def qag (n:Nat) (s:(List qp)) (f_0:Bool):Option Int :=
 (qA s f_0 n 0).bind fun o=>match o with
 | .ret r=>some r
 | .nxt _ =>
  some (-1)
theorem qdH {s:(List qp)} {f_0:Bool} (ha1:GoT.R w (old w) s cs1) {p2:Option Addr} (ha2:GoT.R w (old w) (some f_0) [.pointer p2]) {r:Int} (hF:qag n s f_0=some r):RetV Tryz.prog 272 [GoT.v (List qp) cs1,.func (.func 263) #[] #[.pointer p2]] w r:=by
 obtain ⟨p1,k1,rfl,s1⟩:=ha1
 obtain ⟨b1,o_1,cs2,rfl,-,hr1,hc1⟩:=PtR.get ha2 rfl
 obtain rfl:=hr1
 refine zV 19 Tryz.func272 rfl fun h=>X0 11 rfl ?_
 obtain ⟨o1,hF,hK1⟩:=qe hF
 refine ql (rL (fun m e w'=>∃ (i1:Int),qA s f_0 m i1=some o1∧e=[(0,.slice p1 s.length k1),(1,.func (.func 263) #[] #[.pointer (some ⟨b1,o_1,none⟩)]),(7,.int .i64 (s.length:Int)),(8,.int .i64 i1)]∧SH w w' []) n ⟨_,hF,rfl,h⟩ rfl ?_)
 rintro m1 e1 w1 ⟨i1,hF,rfl,h⟩
 rcases m1 with _|m1
 ·cases hF
 refine X0 5 rfl (qg rfl hF ?_ ?_)<;>intro hF
 ·refine X0 13 rfl ?_
  obtain ⟨y1,hy1,hF,he1,b2,_,q1,cs3,hp1,hq1,hr2,hc3⟩:=s1.ix hF
  obtain ⟨p3,k2,p4,k3,p5,k4,rfl,s2,s3,s4⟩:=qaP hr2
  refine zxe hp1 hq1 he1 rfl (zc 0 (hc3.below h.below) rfl (zcB h hF (qjQ (qgy y1 (h.oldS s2) (h.oldS s3) (h.oldS s4)) (h.old ha2)) rfl fun r1 w2 h hF=>qdk (qg rfl hF ?_ ?_)))<;>intro hF
  ·refine X0 5 rfl ?_
   obtain rfl:=qa hF;replace hF:=hK1
   exact ri h hF rfl
  exact X0 6 rfl (rK ⟨_,hF,rfl,h⟩ rfl)
 refine qq rfl ?_
 obtain rfl:=qa hF;replace hF:=hK1
 exact X0 4 rfl (ri h hF rfl)
def qau (n:Nat) (s:(List qp)) (f_0:Bool):Option Bool :=
 (qag n s f_0).bind fun r1 =>
 some (decide (r1 ≥ 0))
theorem qdh {s:(List qp)} {f_0:Bool} (ha1:GoT.R w (old w) s cs1) {p2:Option Addr} (ha2:GoT.R w (old w) (some f_0) [.pointer p2]) {r:Bool} (hF:qau n s f_0=some r):RetV Tryz.prog 262 [GoT.v (List qp) cs1,.func (.func 263) #[] #[.pointer p2]] w r:=by
 obtain ⟨p1,k1,rfl,s1⟩:=ha1
 obtain ⟨b1,o_1,cs2,rfl,-,hr1,hc1⟩:=PtR.get ha2 rfl
 obtain rfl:=hr1
 exact zV 9 Tryz.func262 rfl fun h=>X0 8 rfl (zcI h hF (qdH ⟨_,_,rfl,(h.oldS s1)⟩ (h.old ha2)) rfl fun r1 w1 h hF=>X0 3 rfl (rb h hF rfl))
def qea (n:Nat) (list:(List qp)) (positive:Bool):Option Bool :=
 bif ((list.length:Int)==2) then
  (qau n list positive).bind fun r1 =>
  some (!r1)
 else
  some false
theorem qgp {list:(List qp)} {positive:Bool} (ha1:GoT.R w (old w) list cs1) {r:Bool} (hF:qea n list positive=some r):RetV Tryz.prog 247 [GoT.v (List qp) cs1,.bool positive] w r:=by
 obtain ⟨p1,k1,rfl,s1⟩:=ha1
 refine zV 14 Tryz.func247 rfl fun h=>zSR (qr h rfl rfl fun w1 bb1 h=>X0 8 rfl (qi (t:=8) hF rfl ?_ ?_))<;>intro hF
 ·exact X0 5 rfl (zcB h hF (qdh ⟨_,_,rfl,(h.oldS s1)⟩ (qga (x:=positive) 0 h rfl rfl)) rfl fun r1 w2 h hF=>X0 5 rfl (rb h hF rfl))
 exact X0 7 rfl (rb h hF rfl)
def qgk (_:Nat) (p:qM):Option Bool :=
 some p.Be
theorem qja {p:qM} (ha1:GoT.R w (old w) p cs1) {r:Bool} (hF:qgk n p=some r):RetV Tryz.prog 267 [GoT.v qM cs1] w r:=by
 obtain rfl:=qao ha1
 exact zV 5 Tryz.func267 rfl fun h=>zSR (qr h rfl rfl fun w1 bb1 h=>X1 8 0 h rfl (rb h hF rfl))
def qC (s:(List qM)):Nat→Int→Option (Flow Int Int)
 | 0,_=>none
 | n+1,i1 =>
  bif decide (i1<(s.length:Int)) then
   (idx s i1).bind fun y1 =>
   (qgk n y1).bind fun r1 =>
   bif r1 then some (.ret i1) else
   qC s n (W64 (i1+1))
  else
   some (.nxt i1)
def qaO (n:Nat) (s:(List qM)):Option Int :=
 (qC s n 0).bind fun o=>match o with
 | .ret r=>some r
 | .nxt _ =>
  some (-1)
theorem qdW {s:(List qM)} (ha1:GoT.R w (old w) s cs1) {r:Int} (hF:qaO n s=some r):RetV Tryz.prog 266 [GoT.v (List qM) cs1,.func (.func 267) #[] #[]] w r:=by
 obtain ⟨p1,k1,rfl,s1⟩:=ha1
 refine zV 19 Tryz.func266 rfl fun h=>X0 11 rfl ?_
 obtain ⟨o1,hF,hK1⟩:=qe hF
 refine ql (rL (fun m e w'=>∃ (i1:Int),qC s m i1=some o1∧e=[(0,.slice p1 s.length k1),(1,.func (.func 267) #[] #[]),(7,.int .i64 (s.length:Int)),(8,.int .i64 i1)]∧SH w w' []) n ⟨_,hF,rfl,h⟩ rfl ?_)
 rintro m1 e1 w1 ⟨i1,hF,rfl,h⟩
 rcases m1 with _|m1
 ·cases hF
 refine X0 5 rfl (qg rfl hF ?_ ?_)<;>intro hF
 ·refine X0 13 rfl ?_
  obtain ⟨y1,hy1,hF,he1,b1,_,q1,cs2,hp1,hq1,hr1,hc2⟩:=s1.ix hF
  obtain rfl:=qao hr1
  refine zxe hp1 hq1 he1 rfl (zc 0 (hc2.below h.below) rfl (zcB h hF (qja (qcP y1)) rfl fun r1 w2 h hF=>qdk (qg rfl hF ?_ ?_)))<;>intro hF
  ·refine X0 5 rfl ?_
   obtain rfl:=qa hF;replace hF:=hK1
   exact ri h hF rfl
  exact X0 6 rfl (rK ⟨_,hF,rfl,h⟩ rfl)
 refine qq rfl ?_
 obtain rfl:=qa hF;replace hF:=hK1
 exact X0 4 rfl (ri h hF rfl)
def qfK (n:Nat) (c:qn):Option Int :=
 (qaO n c.Am).bind fun r1 =>
 some r1
theorem qj6 {c:qn} (ha1:GoT.R w (old w) c cs1) {r:Int} (hF:qfK n c=some r):RetV Tryz.prog 248 [GoT.v qn cs1] w r:=by
 obtain ⟨p1,k1,p2,k2,p3,k3,rfl,s1,s2,s3⟩:=qL ha1
 exact zV 6 Tryz.func248 rfl fun h=>zSR (qr h rfl rfl fun w1 bb1 h=>X1 6 0 h rfl (zcI h hF (qdW ⟨_,_,rfl,(h.oldS s1)⟩) rfl fun r1 w2 h hF=>X0 2 rfl (ri h hF rfl)))
def qeZ (n:Nat) (c:qn) (pin:Int):Option Bool :=
 (qdb n c).bind fun r1 =>
 (qar n pin 0 (W64 (r1-1))).bind fun r2 =>
 some r2
theorem qg3 {c:qn} {pin:Int} (ha1:GoT.R w (old w) c cs1) {r:Bool} (hF:qeZ n c pin=some r):RetV Tryz.prog 249 [GoT.v qn cs1,.int .i64 pin] w r:=by
 obtain ⟨p1,k1,p2,k2,p3,k3,rfl,s1,s2,s3⟩:=qL ha1
 exact zV 10 Tryz.func249 rfl fun h=>zSR (qr h rfl rfl fun w1 bb1 h=>X1 6 0 h rfl (zcI h hF (qfA (h.old ha1)) rfl fun r1 w2 h hF=>zp1 rfl (zcB h hF qae rfl fun r2 w3 h hF=>X0 2 rfl (rb h hF rfl))))
def qfJ (n:Nat) (a_0:qn) (a_1:qF):Option Bool :=
 (qhl n a_1.Ap).bind fun r1 =>
 bif r1 then
  (
   bif (a_1.Bf==0) then
    bif ((a_1.Bi.length:Int)==0) then
     (qea n a_1.Az false).bind fun r2 =>
     bif r2 then
      (qfK n a_0).bind fun r3 =>
      bif (a_1.Av==r3) then
       bif decide (a_1.Av ≥ 0) then
        (qeZ n a_0 a_1.To).bind fun r4 =>
        bif r4 then some (a_1.To != a_1.Av) else
        some false
       else
        some false
      else
       some false
     else
      some false
    else
     some false
   else
    some false).bind fun b1 =>
  some b1
 else
  (
   (qea n a_1.Az true).bind fun r6 =>
   bif (!r6) then some true else
   (qea n a_1.Bi true).bind fun r7 =>
   bif (!r7) then some true else
   (qdb n a_0).bind fun r8 =>
   bif (a_1.To != r8) then some true else
   (qeZ n a_0 a_1.Av).bind fun r9 =>
   some (!r9)).bind fun b2 =>
  bif b2 then some false else
  bif (a_1.Ap==1) then
   (idx a_0.Am a_1.Av).bind fun y1 =>
   bif (!y1.Be) then
    (qar n a_1.Bf 1 3).bind fun r5 =>
    some r5
   else
    some false
  else
   (
    bif (a_1.Ap==2) then some (a_1.Ap==2) else
    some (a_1.Ap==3)).bind fun b4 =>
   bif b4 then
    (idx a_0.Am a_1.Av).bind fun y2 =>
    bif y2.Be then some (a_1.Bf==0) else
    some false
   else
    some false
theorem qj2 {a_0:qn} {a_1:qF} (ha1:GoT.R w (old w) a_0 cs1) (ha2:GoT.R w (old w) a_1 cs2) {r:Bool} (hF:qfJ n a_0 a_1=some r):RetV Tryz.prog 215 [GoT.v qn cs1,GoT.v qF cs2] w r:=by
 obtain ⟨p1,k1,p2,k2,p3,k3,rfl,s1,s2,s3⟩:=qL ha1
 obtain ⟨p4,k4,p5,k5,rfl,s4,s5⟩:=qak ha2
 refine zV 103 Tryz.func215 rfl fun h=>zSR (qr h rfl rfl fun w1 bb1 h=>qr h rfl rfl fun w2 bb2 h=>X1 7 0 h rfl (zcB h hF qlE rfl fun r1 w3 h hF=>qdk (qg rfl hF ?_ ?_)))<;>intro hF
 ·refine qfc ?_
  obtain ⟨KF1,hKF1,o1,hF,hK1⟩:=bindE hF
  refine qbx (fun e w'=>∃ (b1:Bool),KF1 b1=some r∧e=[(4,.bool b1)]∧SH w w' []) ?_ ?_
  ·refine rD (Y1 2 0 h rfl ?_)
   refine zd2 rfl (qbm (t:=11) hF rfl ?_ ?_)<;>intro hF
   ·refine Y1 4 0 h rfl ?_
    refine Y0 6 rfl (qbm (t:=17) hF rfl ?_ ?_)<;>intro hF
    ·refine Y1 4 0 h rfl ?_
     refine Y0 1 rfl ?_
     obtain ⟨r2,hr2,hF⟩:=qe hF
     refine qbk r2 (vsB _) (cB 247 rfl) (fun _ hb=>qgp ⟨_,_,rfl,((h.ext hb).oldS s4)⟩ hr2) rfl rfl rfl rfl (zd2 rfl (qbm (t:=22) hF rfl ?_ ?_))<;>intro hF
     ·refine Y1 4 0 h rfl ?_
      refine Y1 2 1 h rfl ?_
      refine Y0 1 rfl ?_
      obtain ⟨r3,hr3,hF⟩:=qe hF
      refine qbk r3 (vsI _) (cB 248 rfl) (fun _ hb=>qj6 ((h.ext hb).old ha1) hr3) rfl rfl rfl rfl (Y0 4 rfl (qbm (t:=29) hF rfl ?_ ?_))<;>intro hF
      ·refine Y1 4 0 h rfl ?_
       refine Y0 4 rfl (qbm (t:=34) hF rfl ?_ ?_)<;>intro hF
       ·refine Y1 2 1 h rfl ?_
        refine Y1 4 0 h rfl ?_
        refine Y0 1 rfl ?_
        obtain ⟨r4,hr4,hF⟩:=qe hF
        refine qbk r4 (vsB _) (cB 249 rfl) (fun _ hb=>qg3 ((h.ext hb).old ha1) hr4) rfl rfl rfl rfl (zd2 rfl (qbm (t:=40) hF rfl ?_ ?_))<;>intro hF
        ·refine Y1 4 0 h rfl ?_
         refine Y1 4 0 h rfl ?_
         refine Y0 4 rfl (dN h fun w4 h=>?_)
         replace h:=h.pick [] rfl
         obtain rfl:=qa hF
         exact rG ⟨_,hK1,rfl,h⟩ rfl
        refine Y0 7 rfl (dN h fun w5 h=>?_)
        replace h:=h.pick [] rfl
        obtain rfl:=qa hF
        exact rG ⟨_,hK1,rfl,h⟩ rfl
       refine Y0 13 rfl (dN h fun w6 h=>?_)
       replace h:=h.pick [] rfl
       obtain rfl:=qa hF
       exact rG ⟨_,hK1,rfl,h⟩ rfl
      refine Y0 18 rfl (dN h fun w7 h=>?_)
      replace h:=h.pick [] rfl
      obtain rfl:=qa hF
      exact rG ⟨_,hK1,rfl,h⟩ rfl
     refine Y0 25 rfl (dN h fun w8 h=>?_)
     replace h:=h.pick [] rfl
     obtain rfl:=qa hF
     exact rG ⟨_,hK1,rfl,h⟩ rfl
    refine Y0 30 rfl (dN h fun w9 h=>?_)
    replace h:=h.pick [] rfl
    obtain rfl:=qa hF
    exact rG ⟨_,hK1,rfl,h⟩ rfl
   refine Y0 36 rfl (dN h fun w10 h=>?_)
   replace h:=h.pick [] rfl
   obtain rfl:=qa hF
   exact rG ⟨_,hK1,rfl,h⟩ rfl
  rintro e1 w11 ⟨b1,hF,rfl,h⟩
  subst hKF1
  exact rb h hF rfl
 refine zKSS ?_
 obtain ⟨KF3,hKF3,o3,hF,hK3⟩:=bindE hF
 refine qbx (fun e w'=>∃ (b2:Bool),KF3 b2=some r∧e=[(2,.pointer (some ⟨bb1,0,none⟩)),(3,.pointer (some ⟨bb2,0,none⟩)),(70,.bool b2)]∧SH w w' [Ch.box bb2 (qiW a_1 p4 p5 k4 k5) 183,Ch.box bb1 (qcV a_0 p1 p2 p3 k1 k2 k3) 169]) ?_ ?_
 ·refine rD (Y1 2 0 h rfl ?_)
  obtain ⟨r6,hr8,hF⟩:=qe hF
  refine qbk r6 (vsB _) (cB 247 rfl) (fun _ hb=>qgp ⟨_,_,rfl,((h.ext hb).oldS s4)⟩ hr8) rfl rfl rfl rfl (zd2 rfl (qbm (t:=51) hF rfl ?_ ?_))<;>intro hF
  ·refine Y0 19 rfl (dN h fun w14 h=>?_)
   obtain rfl:=qa hF
   exact rG ⟨_,hK3,rfl,h⟩ rfl
  refine Y1 4 0 h rfl ?_
  refine Y0 1 rfl ?_
  obtain ⟨r7,hr9,hF⟩:=qe hF
  refine qbk r7 (vsB _) (cB 247 rfl) (fun _ hb=>qgp ⟨_,_,rfl,((h.ext hb).oldS s5)⟩ hr9) rfl rfl rfl rfl (Y0 4 rfl (qbm (t:=57) hF rfl ?_ ?_))<;>intro hF
  ·refine Y0 13 rfl (dN h fun w15 h=>?_)
   obtain rfl:=qa hF
   exact rG ⟨_,hK3,rfl,h⟩ rfl
  refine Y1 4 0 h rfl ?_
  refine Y1 2 1 h rfl ?_
  refine Y0 1 rfl ?_
  obtain ⟨r8,hr10,hF⟩:=qe hF
  refine qbk r8 (vsI _) (cB 218 rfl) (fun _ hb=>qfA ((h.ext hb).old ha1) hr10) rfl rfl rfl rfl (Y0 4 rfl (qbm (t:=64) hF rfl ?_ ?_))<;>intro hF
  ·refine Y0 6 rfl (dN h fun w16 h=>?_)
   obtain rfl:=qa hF
   exact rG ⟨_,hK3,rfl,h⟩ rfl
  refine Y1 2 1 h rfl ?_
  refine Y1 4 0 h rfl ?_
  refine Y0 1 rfl ?_
  obtain ⟨r9,hr11,hF⟩:=qe hF
  refine qbk r9 (vsB _) (cB 249 rfl) (fun _ hb=>qg3 ((h.ext hb).old ha1) hr11) rfl rfl rfl rfl (Y0 3 rfl (dN h fun w17 h=>?_))
  obtain rfl:=qa hF
  exact rG ⟨_,hK3,rfl,h⟩ rfl
 rintro e3 w18 ⟨b2,hF,rfl,h⟩
 subst hKF3
 refine qg rfl hF ?_ ?_<;>intro hF
 ·exact X0 4 rfl (rb h hF rfl)
 refine X1 13 0 h rfl (qg rfl hF ?_ ?_)<;>intro hF
 ·refine X2 6 1 0 h rfl ?_
  obtain ⟨y1,hy1,hF,he1,b3,_,q1,cs3,hp1,hq1,hr5,hc4⟩:=s1.ix hF
  obtain rfl:=qao hr5
  refine zxe hp1 hq1 he1 rfl (zp1 rfl (zc 3 (hc4.below h.below) rfl (zp2 rfl (qi (t:=83) hF rfl ?_ ?_))))<;>intro hF
  ·exact X1 5 0 h rfl (zcB h hF qae rfl fun r5 w12 h hF=>X0 3 rfl (rb h hF rfl))
  exact X0 6 rfl (rb h hF rfl)
 refine X0 6 rfl ?_
 obtain ⟨KF2,hKF2,o2,hF,hK2⟩:=bindE hF
 refine qbx (fun e w'=>∃ (b4:Bool),KF2 b4=some r∧e=[(2,.pointer (some ⟨bb1,0,none⟩)),(3,.pointer (some ⟨bb2,0,none⟩)),(88,.bool b4)]∧SH w w' [Ch.box bb2 (qiW a_1 p4 p5 k4 k5) 183,Ch.box bb1 (qcV a_0 p1 p2 p3 k1 k2 k3) 169]) ?_ ?_
 ·refine qg rfl hF ?_ ?_<;>intro hF
  ·refine qeT ?_
   obtain rfl:=qa hF
   exact rG ⟨_,hK2,rfl,h⟩ rfl
  refine X0 4 rfl ?_
  obtain rfl:=qa hF
  exact rG ⟨_,hK2,rfl,h⟩ rfl
 rintro e2 w13 ⟨b4,hF,rfl,h⟩
 subst hKF2
 refine qg rfl hF ?_ ?_<;>intro hF
 ·refine X2 6 1 0 h rfl ?_
  obtain ⟨y2,hy2,hF,he2,b5,_,q2,cs4,hp2,hq2,hr7,hc6⟩:=s1.ix hF
  obtain rfl:=qao hr7
  refine zxe hp2 hq2 he2 rfl (zp1 rfl (zc 3 (hc6.below h.below) rfl (zp1 rfl (qi (t:=98) hF rfl ?_ ?_))))<;>intro hF
  ·exact X1 9 0 h rfl (rb h hF rfl)
  exact X0 6 rfl (rb h hF rfl)
 exact X0 6 rfl (rb h hF rfl)
def qdZ (_:Nat) (a_o:qF) (v0:qF):Option Bool :=
 bif (a_o.Ap==v0.Ap) then
  bif (a_o.Av==v0.Av) then some (a_o.To==v0.To) else
  some false
 else
  some false
theorem qiJ {a_o:qF} {v0:qF} (ha1:GoT.R w (old w) a_o cs1) {p3:Option Addr} (ha2:GoT.R w (old w) (some v0) [.pointer p3]) {r:Bool} (hF:qdZ n a_o v0=some r):RetV Tryz.prog 217 [GoT.v qF cs1,.pointer p3] w r:=by
 obtain ⟨p1,k1,p2,k2,rfl,s1,s2⟩:=qak ha1
 obtain ⟨b1,o_1,cs2,rfl,-,hr1,hc1⟩:=PtR.get ha2 rfl
 obtain ⟨p4,k3,p5,k4,rfl,s3,s4⟩:=qak hr1
 refine zV 23 Tryz.func217 rfl fun h=>zSR (qr h rfl rfl fun w1 bb1 h=>X1 7 0 h rfl (zc 0 (hc1.below h.below) rfl (zp2 rfl (qi (t:=9) hF rfl ?_ ?_))))<;>intro hF
 ·refine X1 7 0 h rfl (zc 1 (hc1.below h.below) rfl (X0 4 rfl (qi (t:=16) hF rfl ?_ ?_)))<;>intro hF
  ·exact X1 7 0 h rfl (zc 2 (hc1.below h.below) rfl (X0 5 rfl (rb h hF rfl)))
  exact X0 8 rfl (rb h hF rfl)
 exact X0 15 rfl (rb h hF rfl)
def qz (s:(List qF)) (f_0:qF):Nat→Int→Option (Flow Int Int)
 | 0,_=>none
 | n+1,i1 =>
  bif decide (i1<(s.length:Int)) then
   (idx s i1).bind fun y1 =>
   (qdZ n y1 f_0).bind fun r1 =>
   bif r1 then some (.ret i1) else
   qz s f_0 n (W64 (i1+1))
  else
   some (.nxt i1)
def qaE (n:Nat) (s:(List qF)) (f_0:qF):Option Int :=
 (qz s f_0 n 0).bind fun o=>match o with
 | .ret r=>some r
 | .nxt _ =>
  some (-1)
theorem qdr {s:(List qF)} {f_0:qF} (ha1:GoT.R w (old w) s cs1) {p2:Option Addr} (ha2:GoT.R w (old w) (some f_0) [.pointer p2]) {r:Int} (hF:qaE n s f_0=some r):RetV Tryz.prog 250 [GoT.v (List qF) cs1,.func (.func 217) #[] #[.pointer p2]] w r:=by
 obtain ⟨p1,k1,rfl,s1⟩:=ha1
 obtain ⟨b1,o_1,cs2,rfl,-,hr1,hc1⟩:=PtR.get ha2 rfl
 obtain ⟨p3,k2,p4,k3,rfl,s2,s3⟩:=qak hr1
 refine zV 19 Tryz.func250 rfl fun h=>X0 11 rfl ?_
 obtain ⟨o1,hF,hK1⟩:=qe hF
 refine ql (rL (fun m e w'=>∃ (i1:Int),qz s f_0 m i1=some o1∧e=[(0,.slice p1 s.length k1),(1,.func (.func 217) #[] #[.pointer (some ⟨b1,o_1,none⟩)]),(7,.int .i64 (s.length:Int)),(8,.int .i64 i1)]∧SH w w' []) n ⟨_,hF,rfl,h⟩ rfl ?_)
 rintro m1 e1 w1 ⟨i1,hF,rfl,h⟩
 rcases m1 with _|m1
 ·cases hF
 refine X0 5 rfl (qg rfl hF ?_ ?_)<;>intro hF
 ·refine X0 13 rfl ?_
  obtain ⟨y1,hy1,hF,he1,b2,_,q1,cs3,hp1,hq1,hr2,hc3⟩:=s1.ix hF
  obtain ⟨p5,k4,p6,k5,rfl,s4,s5⟩:=qak hr2
  refine zxe hp1 hq1 he1 rfl (zc 0 (hc3.below h.below) rfl (zcB h hF (qiJ (qfF y1 (h.oldS s4) (h.oldS s5)) (h.old ha2)) rfl fun r1 w2 h hF=>qdk (qg rfl hF ?_ ?_)))<;>intro hF
  ·refine X0 5 rfl ?_
   obtain rfl:=qa hF;replace hF:=hK1
   exact ri h hF rfl
  exact X0 6 rfl (rK ⟨_,hF,rfl,h⟩ rfl)
 refine qq rfl ?_
 obtain rfl:=qa hF;replace hF:=hK1
 exact X0 4 rfl (ri h hF rfl)
def qV (n:Nat) (s:(List qF)) (f_0:qF):Option Bool :=
 (qaE n s f_0).bind fun r1 =>
 some (decide (r1 ≥ 0))
theorem qc0 {s:(List qF)} {f_0:qF} (ha1:GoT.R w (old w) s cs1) {p2:Option Addr} (ha2:GoT.R w (old w) (some f_0) [.pointer p2]) {r:Bool} (hF:qV n s f_0=some r):RetV Tryz.prog 216 [GoT.v (List qF) cs1,.func (.func 217) #[] #[.pointer p2]] w r:=by
 obtain ⟨p1,k1,rfl,s1⟩:=ha1
 obtain ⟨b1,o_1,cs2,rfl,-,hr1,hc1⟩:=PtR.get ha2 rfl
 obtain ⟨p3,k2,p4,k3,rfl,s2,s3⟩:=qak hr1
 exact zV 9 Tryz.func216 rfl fun h=>X0 8 rfl (zcI h hF (qdr ⟨_,_,rfl,(h.oldS s1)⟩ (h.old ha2)) rfl fun r1 w1 h hF=>X0 3 rfl (rb h hF rfl))
end Go.Fw


namespace Go.Fw
open Go Go.Proofs
open Go.RowKit (Below)
set_option maxRecDepth 100000
set_option maxHeartbeats 6400000
variable {n:Nat} {w:World} {cs1 cs2 cs3 cs4 cs5 cs6 cs7 cs8 cs9:List Value}
def qbC (c:qn):Nat→Int→Option (Flow Bool Int)
 | 0,_=>none
 | n+1,i1 =>
  bif decide (i1<(c.Ar.length:Int)) then
   (idx c.Ar i1).bind fun y1 =>
   (qfJ n c y1).bind fun r1 =>
   bif (!r1) then some (.ret false) else
   (subS c.Ar 0 i1).bind fun x1 =>
   (qV n x1 y1).bind fun r2 =>
   bif r2 then some (.ret false) else
   qbC c n (W64 (i1+1))
  else
   some (.nxt i1)
def qeX (n:Nat) (c:qn):Option Bool :=
 (qbC c n 0).bind fun o=>match o with
 | .ret r=>some r
 | .nxt _ =>
  some (decide ((c.Ar.length:Int)≤8))
theorem qjm {c:qn} (ha1:GoT.R w (old w) c cs1) {r:Bool} (hF:qeX n c=some r):RetV Tryz.prog 179 [GoT.v qn cs1] w r:=by
 obtain ⟨p1,k1,p2,k2,p3,k3,rfl,s1,s2,s3⟩:=qL ha1
 refine zV 30 Tryz.func179 rfl fun h=>zSR (qr h rfl rfl fun w1 bb1 h=>X1 10 0 h rfl ?_)
 obtain ⟨o1,hF,hK1⟩:=qe hF
 refine ql (rL (fun m e w'=>∃ (i1:Int),qbC c m i1=some o1∧e=[(1,.pointer (some ⟨bb1,0,none⟩)),(6,.slice p2 c.Ar.length k2),(7,.int .i64 (c.Ar.length:Int)),(8,.int .i64 i1)]∧SH w w' [Ch.box bb1 (qcV c p1 p2 p3 k1 k2 k3) 169]) n ⟨_,hF,rfl,h⟩ rfl ?_)
 rintro m1 e1 w2 ⟨i1,hF,rfl,h⟩
 rcases m1 with _|m1
 ·cases hF
 refine X0 5 rfl (qg rfl hF ?_ ?_)<;>intro hF
 ·refine X0 6 rfl ?_
  obtain ⟨y1,hy1,hF,he1,b1,_,q1,cs2,hp1,hq1,hr1,hc2⟩:=s2.ix hF
  obtain ⟨p4,k4,p5,k5,rfl,s4,s5⟩:=qak hr1
  refine zxe hp1 hq1 he1 rfl (zc 0 (hc2.below h.below) rfl (qB qb h rfl rfl rfl fun w3 bb2 h=>zp1 rfl (zs 0 h rfl fun w4 h=>X2 5 1 0 h rfl (zcB h hF (qj2 (h.old ha1) (qfF y1 (h.oldS s4) (h.oldS s5))) rfl fun r1 w5 h hF=>zp2 rfl (qi (t:=17) hF rfl ?_ ?_)))))<;>intro hF
  ·refine X0 8 rfl (qdp rfl rfl (X0 4 rfl ?_))
   obtain rfl:=qa hF;replace hF:=hK1
   exact rb h hF rfl
  refine X1 7 1 h rfl ?_
  obtain ⟨x1,hx1,hF⟩:=qe hF
  obtain ⟨p6,k6,hp2,hk1,hl1,g1⟩:=qnA (h.oldS s2) hx1
  refine r_v (qkh qb rfl rfl rfl (qnF g1 rfl) hp2 hk1 hl1 rfl rfl rfl rfl) rfl ?_
  have s6:=qn1 s2 hx1 hp2 hk1
  refine X0 3 rfl (zcB h hF (qc0 ⟨_,_,rfl,(h.oldS s6)⟩ (qga (x:=y1) 0 h rfl (qfF y1 (h.oldS s4) (h.oldS s5)))) rfl fun r2 w6 h hF=>X0 2 rfl (qg rfl hF ?_ ?_))<;>intro hF
  ·refine X0 4 rfl ?_
   obtain rfl:=qa hF;replace hF:=hK1
   exact rb h hF rfl
  refine X0 6 rfl ?_
  replace h:=h.pick [1] rfl
  exact rK ⟨_,hF,rfl,h⟩ rfl
 refine qq rfl ?_
 obtain rfl:=qa hF;replace hF:=hK1
 exact X1 8 0 h rfl (rb h hF rfl)
def qg9 (_:Nat) (a:qF) (v0:Int):Option Bool :=
 some (a.Ap==v0)
theorem qjW {a:qF} {v0:Int} (ha1:GoT.R w (old w) a cs1) {p3:Option Addr} (ha2:GoT.R w (old w) (some v0) [.pointer p3]) {r:Bool} (hF:qg9 n a v0=some r):RetV Tryz.prog 251 [GoT.v qF cs1,.pointer p3] w r:=by
 obtain ⟨p1,k1,p2,k2,rfl,s1,s2⟩:=qak ha1
 obtain ⟨b1,o_1,cs2,rfl,-,hr1,hc1⟩:=PtR.get ha2 rfl
 obtain rfl:=hr1
 exact zV 8 Tryz.func251 rfl fun h=>zSR (qr h rfl rfl fun w1 bb1 h=>X1 6 0 h rfl (zc 0 (hc1.below h.below) rfl (X0 3 rfl (rb h hF rfl))))
def qH (s:(List qF)) (f_0:Int):Nat→Int→Option (Flow Int Int)
 | 0,_=>none
 | n+1,i1 =>
  bif decide (i1<(s.length:Int)) then
   (idx s i1).bind fun y1 =>
   (qg9 n y1 f_0).bind fun r1 =>
   bif r1 then some (.ret i1) else
   qH s f_0 n (W64 (i1+1))
  else
   some (.nxt i1)
def qaZ (n:Nat) (s:(List qF)) (f_0:Int):Option Int :=
 (qH s f_0 n 0).bind fun o=>match o with
 | .ret r=>some r
 | .nxt _ =>
  some (-1)
theorem qd0 {s:(List qF)} {f_0:Int} (ha1:GoT.R w (old w) s cs1) {p2:Option Addr} (ha2:GoT.R w (old w) (some f_0) [.pointer p2]) {r:Int} (hF:qaZ n s f_0=some r):RetV Tryz.prog 250 [GoT.v (List qF) cs1,.func (.func 251) #[] #[.pointer p2]] w r:=by
 obtain ⟨p1,k1,rfl,s1⟩:=ha1
 obtain ⟨b1,o_1,cs2,rfl,-,hr1,hc1⟩:=PtR.get ha2 rfl
 obtain rfl:=hr1
 refine zV 19 Tryz.func250 rfl fun h=>X0 11 rfl ?_
 obtain ⟨o1,hF,hK1⟩:=qe hF
 refine ql (rL (fun m e w'=>∃ (i1:Int),qH s f_0 m i1=some o1∧e=[(0,.slice p1 s.length k1),(1,.func (.func 251) #[] #[.pointer (some ⟨b1,o_1,none⟩)]),(7,.int .i64 (s.length:Int)),(8,.int .i64 i1)]∧SH w w' []) n ⟨_,hF,rfl,h⟩ rfl ?_)
 rintro m1 e1 w1 ⟨i1,hF,rfl,h⟩
 rcases m1 with _|m1
 ·cases hF
 refine X0 5 rfl (qg rfl hF ?_ ?_)<;>intro hF
 ·refine X0 13 rfl ?_
  obtain ⟨y1,hy1,hF,he1,b2,_,q1,cs3,hp1,hq1,hr2,hc3⟩:=s1.ix hF
  obtain ⟨p3,k2,p4,k3,rfl,s2,s3⟩:=qak hr2
  refine zxe hp1 hq1 he1 rfl (zc 0 (hc3.below h.below) rfl (zcB h hF (qjW (qfF y1 (h.oldS s2) (h.oldS s3)) (h.old ha2)) rfl fun r1 w2 h hF=>qdk (qg rfl hF ?_ ?_)))<;>intro hF
  ·refine X0 5 rfl ?_
   obtain rfl:=qa hF;replace hF:=hK1
   exact ri h hF rfl
  exact X0 6 rfl (rK ⟨_,hF,rfl,h⟩ rfl)
 refine qq rfl ?_
 obtain rfl:=qa hF;replace hF:=hK1
 exact X0 4 rfl (ri h hF rfl)
def qaK (n:Nat) (s:(List qF)) (f_0:Int):Option Bool :=
 (qaZ n s f_0).bind fun r1 =>
 some (decide (r1 ≥ 0))
theorem qdO {s:(List qF)} {f_0:Int} (ha1:GoT.R w (old w) s cs1) {p2:Option Addr} (ha2:GoT.R w (old w) (some f_0) [.pointer p2]) {r:Bool} (hF:qaK n s f_0=some r):RetV Tryz.prog 216 [GoT.v (List qF) cs1,.func (.func 251) #[] #[.pointer p2]] w r:=by
 obtain ⟨p1,k1,rfl,s1⟩:=ha1
 obtain ⟨b1,o_1,cs2,rfl,-,hr1,hc1⟩:=PtR.get ha2 rfl
 obtain rfl:=hr1
 exact zV 9 Tryz.func216 rfl fun h=>X0 8 rfl (zcI h hF (qd0 ⟨_,_,rfl,(h.oldS s1)⟩ (h.old ha2)) rfl fun r1 w1 h hF=>X0 3 rfl (rb h hF rfl))
def qco (n:Nat) (c:qn) (kind:Int):Option Bool :=
 (qaK n c.Ar kind).bind fun r1 =>
 some r1
theorem qde {c:qn} {kind:Int} (ha1:GoT.R w (old w) c cs1) {r:Bool} (hF:qco n c kind=some r):RetV Tryz.prog 219 [GoT.v qn cs1,.int .i64 kind] w r:=by
 obtain ⟨p1,k1,p2,k2,p3,k3,rfl,s1,s2,s3⟩:=qL ha1
 exact zV 9 Tryz.func219 rfl fun h=>zSR (qr h rfl rfl fun w1 bb1 h=>qr h rfl rfl fun w2 bb2 h=>X1 7 1 h rfl (zcB h hF (qdO ⟨_,_,rfl,(h.oldS s2)⟩ (qga (x:=kind) 0 h rfl rfl)) rfl fun r1 w3 h hF=>X0 2 rfl (rb h hF rfl)))
def qaF (a_0:qn):Nat→Int→Int→Option (Int × Int)
 | 0,_,_=>none
 | n+1,i1,i2 =>
  bif decide (i2<(a_0.Am.length:Int)) then
   (idx a_0.Am i2).bind fun y1 =>
   bif y1.Be then qaF a_0 n (W64 (i1+1)) (W64 (i2+1)) else
   qaF a_0 n i1 (W64 (i2+1))
  else
   some (i1,i2)
def qeA (n:Nat) (a_0:qn):Option Bool :=
 (qaF a_0 n 0 0).bind fun o=>match o with
 | (i1,_) =>
  bif (a_0.Ap==1) then
   bif (i1==0) then
    (qdb n a_0).bind fun r1 =>
    (shlS 1 r1).bind fun y2 =>
    bif ((a_0.Ay.length:Int)==y2) then
     (qbe n a_0.Ay 0 1).bind fun r2 =>
     some r2
    else
     some false
   else
    some false
  else
   bif (a_0.Ap==2) then
    bif (i1==1) then
     bif ((a_0.Ay.length:Int)==0) then
      (qco n a_0 1).bind fun r3 =>
      bif (!r3) then
       (qco n a_0 2).bind fun r4 =>
       (qco n a_0 3).bind fun r5 =>
       some (!(r4==r5))
      else
       some false
     else
      some false
    else
     some false
   else
    bif (a_0.Ap==3) then
     bif (i1==1) then
      bif ((a_0.Ay.length:Int)==0) then
       (qco n a_0 1).bind fun r6 =>
       bif r6 then
        (qco n a_0 2).bind fun r7 =>
        bif r7 then
         (qco n a_0 3).bind fun r8 =>
         some (!r8)
        else
         some false
       else
        some false
      else
       some false
     else
      some false
    else
     some false
theorem qi5 {a_0:qn} (ha1:GoT.R w (old w) a_0 cs1) {r:Bool} (hF:qeA n a_0=some r):RetV Tryz.prog 180 [GoT.v qn cs1] w r:=by
 obtain ⟨p1,k1,p2,k2,p3,k3,rfl,s1,s2,s3⟩:=qL ha1
 refine zV 83 Tryz.func180 rfl fun h=>zSR (qr h rfl rfl fun w1 bb1 h=>X1 14 0 h rfl ?_)
 obtain ⟨o1,hF,hK1⟩:=qe hF
 refine ql (rL (fun m e w'=>∃ (i1:Int) (i2:Int),qaF a_0 m i1 i2=some o1∧e=[(1,.pointer (some ⟨bb1,0,none⟩)),(3,.int .i64 i1),(7,.slice p1 a_0.Am.length k1),(8,.int .i64 (a_0.Am.length:Int)),(9,.int .i64 i2)]∧SH w w' [Ch.box bb1 (qcV a_0 p1 p2 p3 k1 k2 k3) 169]) n ⟨_,_,hF,rfl,h⟩ rfl ?_)
 rintro m1 e1 w2 ⟨i1,i2,hF,rfl,h⟩
 rcases m1 with _|m1
 ·cases hF
 refine X0 5 rfl (qg rfl hF ?_ ?_)<;>intro hF
 ·refine zKSBSR ?_
  obtain ⟨y1,hy1,hF,he1,b1,_,q1,cs2,hp1,hq1,hr1,hc2⟩:=s1.ix hF
  obtain rfl:=qao hr1
  refine zxe hp1 hq1 he1 rfl (zc 0 (hc2.below h.below) rfl (qB qb h rfl rfl rfl fun w3 bb2 h=>zs 0 h rfl fun w4 h=>X1 6 0 h rfl (qg rfl hF ?_ ?_)))<;>intro hF
  ·refine X0 10 rfl ?_
   replace h:=h.pick [1] rfl
   exact rK ⟨_,_,hF,rfl,h⟩ rfl
  refine X0 6 rfl ?_
  replace h:=h.pick [1] rfl
  exact rK ⟨_,_,hF,rfl,h⟩ rfl
 refine qq rfl ?_
 obtain rfl:=qa hF;replace hF:=hK1
 refine X1 12 0 h rfl (qg rfl hF ?_ ?_)<;>intro hF
 ·refine qfc (rD (zd3 rfl (qbm (t:=24) hF rfl ?_ ?_)))<;>intro hF
  ·refine Y1 4 0 h rfl ?_
   refine Y1 4 0 h rfl ?_
   refine Y0 1 rfl ?_
   obtain ⟨r1,hr2,hF⟩:=qe hF
   refine qbk r1 (vsI _) (cB 218 rfl) (fun _ hb=>qfA ((h.ext hb).old ha1) hr2) rfl rfl rfl rfl (Y0 1 rfl ?_)
   obtain ⟨y2,hx1,hF⟩:=qe hF
   obtain ⟨g1,hx1⟩:=qm1 hx1
   refine d_v (fun _ hb=>qst g1 rfl rfl) rfl ?_
   rw [hx1]
   refine Y0 4 rfl (qbm (t:=33) hF rfl ?_ ?_)<;>intro hF
   ·refine Y1 4 0 h rfl ?_
    refine Y0 1 rfl ?_
    obtain ⟨r2,hr3,hF⟩:=qe hF
    exact qbk r2 (vsB _) (cB 76 rfl) (fun _ hb=>qbJ ⟨_,_,rfl,((h.ext hb).oldS s3)⟩ hr3) rfl rfl rfl rfl (zd2 rfl (dN h fun w5 h=>rb h hF rfl))
   exact Y0 5 rfl (dN h fun w6 h=>rb h hF rfl)
  exact Y0 14 rfl (dN h fun w7 h=>rb h hF rfl)
 refine X0 5 rfl (qg rfl hF ?_ ?_)<;>intro hF
 ·refine qfc (rD (zd3 rfl (qbm (t:=42) hF rfl ?_ ?_)))<;>intro hF
  ·refine Y1 4 0 h rfl ?_
   refine Y0 6 rfl (qbm (t:=48) hF rfl ?_ ?_)<;>intro hF
   ·refine Y1 2 0 h rfl ?_
    refine Y0 1 rfl ?_
    obtain ⟨r3,hr4,hF⟩:=qe hF
    refine qbk r3 (vsB _) (cB 219 rfl) (fun _ hb=>qde ((h.ext hb).old ha1) hr4) rfl rfl rfl rfl (Y0 4 rfl (qbm (t:=53) hF rfl ?_ ?_))<;>intro hF
    ·refine Y1 2 0 h rfl ?_
     refine Y0 1 rfl ?_
     obtain ⟨r4,hr5,hF⟩:=qe hF
     refine qbk r4 (vsB _) (cB 219 rfl) (fun _ hb=>qde ((h.ext hb).old ha1) hr5) rfl rfl rfl rfl (Y1 2 0 h rfl ?_)
     refine Y0 1 rfl ?_
     obtain ⟨r5,hr6,hF⟩:=qe hF
     exact qbk r5 (vsB _) (cB 219 rfl) (fun _ hb=>qde ((h.ext hb).old ha1) hr6) rfl rfl rfl rfl (Y0 4 rfl (dN h fun w8 h=>rb h hF rfl))
    exact Y0 7 rfl (dN h fun w9 h=>rb h hF rfl)
   exact Y0 12 rfl (dN h fun w10 h=>rb h hF rfl)
  exact Y0 18 rfl (dN h fun w11 h=>rb h hF rfl)
 refine X0 5 rfl (qg rfl hF ?_ ?_)<;>intro hF
 ·refine X0 5 rfl (qi (t:=64) hF rfl ?_ ?_)<;>intro hF
  ·refine X1 10 0 h rfl (qi (t:=70) hF rfl ?_ ?_)<;>intro hF
   ·refine X1 3 0 h rfl (zcB h hF (qde (h.old ha1)) rfl fun r6 w12 h hF=>zp2 rfl (qi (t:=74) hF rfl ?_ ?_))<;>intro hF
    ·refine X1 3 0 h rfl (zcB h hF (qde (h.old ha1)) rfl fun r7 w13 h hF=>zp2 rfl (qi (t:=78) hF rfl ?_ ?_))<;>intro hF
     ·exact X1 3 0 h rfl (zcB h hF (qde (h.old ha1)) rfl fun r8 w14 h hF=>X0 5 rfl (rb h hF rfl))
     exact X0 6 rfl (rb h hF rfl)
    exact X0 10 rfl (rb h hF rfl)
   exact X0 14 rfl (rb h hF rfl)
  exact X0 20 rfl (rb h hF rfl)
 exact X0 6 rfl (rb h hF rfl)
def qif (n:Nat) (c:qn):Option Bool :=
 (qgZ n c.Aq).bind fun r1 =>
 bif r1 then
  (qhj n c.Am).bind fun r2 =>
  bif r2 then
   (qeX n c).bind fun r3 =>
   bif r3 then
    (qar n c.Bo 0 100000).bind fun r4 =>
    bif r4 then
     (qar n c.Bj 0 100000).bind fun r5 =>
     bif r5 then
      (qeA n c).bind fun r6 =>
      some r6
     else
      some false
    else
     some false
   else
    some false
  else
   some false
 else
  some false
theorem qmy {c:qn} (ha1:GoT.R w (old w) c cs1) {r:Bool} (hF:qif n c=some r):RetV Tryz.prog 149 [GoT.v qn cs1] w r:=by
 obtain ⟨p1,k1,p2,k2,p3,k3,rfl,s1,s2,s3⟩:=qL ha1
 refine zV 29 Tryz.func149 rfl fun h=>zSR (qr h rfl rfl fun w1 bb1 h=>X1 6 0 h rfl (zcB h hF qji rfl fun r1 w2 h hF=>zp1 rfl (qi (t:=6) hF rfl ?_ ?_)))<;>intro hF
 ·refine X1 5 0 h rfl (zcB h hF (qlw ⟨_,_,rfl,(h.oldS s1)⟩) rfl fun r2 w3 h hF=>zp2 rfl (qi (t:=11) hF rfl ?_ ?_))<;>intro hF
  ·refine X1 3 0 h rfl (zcB h hF (qjm (h.old ha1)) rfl fun r3 w4 h hF=>zp2 rfl (qi (t:=15) hF rfl ?_ ?_))<;>intro hF
   ·refine X1 5 0 h rfl (zcB h hF qae rfl fun r4 w5 h hF=>zp2 rfl (qi (t:=20) hF rfl ?_ ?_))<;>intro hF
    ·refine X1 5 0 h rfl (zcB h hF qae rfl fun r5 w6 h hF=>zp2 rfl (qi (t:=25) hF rfl ?_ ?_))<;>intro hF
     ·exact X1 3 0 h rfl (zcB h hF (qi5 (h.old ha1)) rfl fun r6 w7 h hF=>X0 3 rfl (rb h hF rfl))
     exact X0 5 rfl (rb h hF rfl)
    exact X0 10 rfl (rb h hF rfl)
   exact X0 15 rfl (rb h hF rfl)
  exact X0 19 rfl (rb h hF rfl)
 exact X0 24 rfl (rb h hF rfl)
def qbV (l:qh):Nat→(List ByteArray)→Int→Option (Flow Bool ((List ByteArray) × Int))
 | 0,_,_=>none
 | n+1,x1,i1 =>
  bif decide (i1<(l.Ai.length:Int)) then
   (idx l.Ai i1).bind fun y1 =>
   (qif n y1).bind fun r1 =>
   bif (!r1) then some (.ret false) else
   (appS x1 ([y1.Aq]:List ByteArray)).bind fun x2 =>
   qbV l n x2 (W64 (i1+1))
  else
   some (.nxt (x1,i1))
def qgn (n:Nat) (l:qh):Option Bool :=
 (qbV l n ([]:List ByteArray) 0).bind fun o=>match o with
 | .ret r=>some r
 | .nxt (x1,_) =>
  bif decide ((l.Ai.length:Int)≤8) then
   (qcZ n x1).bind fun r2 =>
   some r2
  else
   some false
theorem qkx {l:qh} (ha1:GoT.R w (old w) l cs1) {r:Bool} (hF:qgn n l=some r):RetV Tryz.prog 109 [GoT.v qh cs1] w r:=by
 obtain ⟨p1,k1,rfl,s1⟩:=qU ha1
 refine zV 30 Tryz.func109 rfl fun h=>zSR (qr h rfl rfl fun w1 bb1 h=>X1 14 0 h rfl ?_)
 replace h:=h.nil (α:=ByteArray)
 obtain ⟨o1,hF,hK1⟩:=qe hF
 refine ql (rL (fun m e w'=>∃ (S1:Nat→Prop) (p2:Option Addr) (ln1:Nat) (k2:Nat) (x1:(List ByteArray)) (i1:Int),qbV l m x1 i1=some o1∧e=[(1,.pointer (some ⟨bb1,0,none⟩)),(3,.slice p2 ln1 k2),(7,.slice p1 l.Ai.length k1),(8,.int .i64 (l.Ai.length:Int)),(9,.int .i64 i1)]∧SH w w' [Ch.own S1 (x1:List ByteArray) [.slice p2 ln1 k2],Ch.box bb1 [.slice p1 l.Ai.length k1] 41]) n ⟨_,_,_,_,_,_,hF,rfl,h⟩ rfl ?_)
 rintro m1 e1 w2 ⟨S1,p2,ln1,k2,x1,i1,hF,rfl,h⟩
 obtain rfl:=(h.sl 0 rfl).2
 rcases m1 with _|m1
 ·cases hF
 refine X0 5 rfl (qg rfl hF ?_ ?_)<;>intro hF
 ·refine zKSBSR ?_
  obtain ⟨y1,hy1,hF,he1,b1,_,q1,cs2,hp1,hq1,hr1,hc2⟩:=s1.ix hF
  obtain ⟨p3,k3,p4,k4,p5,k5,rfl,s2,s3,s4⟩:=qL hr1
  refine zxe hp1 hq1 he1 rfl (zc 0 (hc2.below h.below) rfl (qB qb h rfl rfl rfl fun w3 bb2 h=>zs 0 h rfl fun w4 h=>X1 5 0 h rfl (zcB h hF (qmy (qhE y1 (h.oldS s2) (h.oldS s3) (h.oldS s4))) rfl fun r1 w5 h hF=>X0 2 rfl (qg rfl hF ?_ ?_))))<;>intro hF
  ·refine X0 4 rfl ?_
   obtain rfl:=qa hF;replace hF:=hK1
   exact rb h hF rfl
  refine X1 5 0 h rfl (qR qb [.tmp 18] _ ([y1.Aq]:List ByteArray) h rfl rfl rfl rfl rfl rfl rfl rfl rfl ⟨rfl,trivial⟩ rfl fun w6 p6 S2 h=>?_)
  obtain ⟨x2,hx1,hF⟩:=qe hF
  obtain ⟨g1,hx1⟩:=qam hx1
  refine qcG qb 2 h rfl (h.sl 0 rfl).1 (h.sl 0 rfl).2 rfl rfl rfl rfl rfl rfl rfl rfl rfl g1 hx1 rfl fun w7 p7 k6 S3 h=>X0 7 rfl ?_
  replace h:=h.pick [2,3] rfl
  exact rK ⟨_,_,_,_,_,_,hF,rfl,h⟩ rfl
 refine qq rfl ?_
 obtain rfl:=qa hF;replace hF:=hK1
 refine X1 7 1 h rfl (qi (t:=26) hF rfl ?_ ?_)<;>intro hF
 ·exact X0 3 rfl (zcB h hF (qeh (h.own 0 rfl)) rfl fun r2 w8 h hF=>X0 3 rfl (rb h hF rfl))
 exact X0 5 rfl (rb h hF rfl)
def qaL (d:qc):Nat→(List ByteArray)→Int→Option ((List ByteArray) × Int)
 | 0,_,_=>none
 | n+1,x3,i2 =>
  bif decide (i2<(d.Ac.length:Int)) then
   (idx d.Ac i2).bind fun y2 =>
   (appS x3 ([y2.Aq]:List ByteArray)).bind fun x4 =>
   qaL d n x4 (W64 (i2+1))
  else
   some (x3,i2)
def qaH (d:qc):Nat→(List ByteArray)→Int→Option ((List ByteArray) × Int)
 | 0,_,_=>none
 | n+1,x1,i1 =>
  bif decide (i1<(d.Aa.length:Int)) then
   (idx d.Aa i1).bind fun y1 =>
   (appS x1 ([y1.Aq]:List ByteArray)).bind fun x2 =>
   qaH d n x2 (W64 (i1+1))
  else
   some (x1,i1)
def qdL (n:Nat) (d:qc):Option Bool :=
 (qaH d n ([]:List ByteArray) 0).bind fun o=>match o with
 | (x1,_) =>
  (qaL d n ([]:List ByteArray) 0).bind fun o=>match o with
  | (x3,_) =>
   bif decide ((x1.length:Int)≤14) then
    bif decide ((d.Af.length:Int)≤30) then
     bif decide ((x3.length:Int)≤8) then
      (qcZ n x1).bind fun r1 =>
      bif r1 then
       (qcZ n d.Af).bind fun r2 =>
       bif r2 then
        (qcZ n x3).bind fun r3 =>
        some r3
       else
        some false
      else
       some false
     else
      some false
    else
     some false
   else
    some false
theorem qiu {d:qc} (ha1:GoT.R w (old w) d cs1) {r:Bool} (hF:qdL n d=some r):RetV Tryz.prog 110 [GoT.v qc cs1] w r:=by
 obtain ⟨p1,k1,p2,k2,p3,k3,rfl,s1,s2,s3⟩:=qK ha1
 refine zV 62 Tryz.func110 rfl fun h=>zSR (qr h rfl rfl fun w1 bb1 h=>X1 15 0 h rfl ?_)
 replace h:=h.nil (α:=ByteArray)
 obtain ⟨o1,hF,hK1⟩:=qe hF
 refine ql (rL (fun m e w'=>∃ (S1:Nat→Prop) (p4:Option Addr) (ln1:Nat) (k4:Nat) (x1:(List ByteArray)) (i1:Int),qaH d m x1 i1=some o1∧e=[(1,.pointer (some ⟨bb1,0,none⟩)),(3,.slice p4 ln1 k4),(4,.slice none 0 0),(10,.slice p1 d.Aa.length k1),(11,.int .i64 (d.Aa.length:Int)),(12,.int .i64 i1)]∧SH w w' [Ch.own S1 (x1:List ByteArray) [.slice p4 ln1 k4],Ch.box bb1 (qaD d p1 p2 p3 k1 k2 k3) 45]) n ⟨_,_,_,_,_,_,hF,rfl,h⟩ rfl ?_)
 rintro m1 e1 w2 ⟨S1,p4,ln1,k4,x1,i1,hF,rfl,h⟩
 obtain rfl:=(h.sl 0 rfl).2
 rcases m1 with _|m1
 ·cases hF
 refine X0 5 rfl (qg rfl hF ?_ ?_)<;>intro hF
 ·refine zKSBSR ?_
  obtain ⟨y1,hy1,hF,he1,b1,_,q1,cs2,hp1,hq1,hr1,hc2⟩:=s1.ix hF
  obtain ⟨p5,k5,rfl,s4⟩:=qG hr1
  refine zxe hp1 hq1 he1 rfl (zc 0 (hc2.below h.below) rfl (qB qb h rfl rfl rfl fun w3 bb2 h=>zs 0 h rfl fun w4 h=>X1 5 0 h rfl (qR qb [.tmp 18] _ ([y1.Aq]:List ByteArray) h rfl rfl rfl rfl rfl rfl rfl rfl rfl ⟨rfl,trivial⟩ rfl fun w5 p6 S2 h=>?_)))
  obtain ⟨x2,hx1,hF⟩:=qe hF
  obtain ⟨g1,hx1⟩:=qam hx1
  refine qcG qb 2 h rfl (h.sl 0 rfl).1 (h.sl 0 rfl).2 rfl rfl rfl rfl rfl rfl rfl rfl rfl g1 hx1 rfl fun w6 p7 k6 S3 h=>X0 7 rfl ?_
  replace h:=h.pick [2,3] rfl
  exact rK ⟨_,_,_,_,_,_,hF,rfl,h⟩ rfl
 refine qq rfl ?_
 obtain rfl:=qa hF;replace hF:=hK1
 refine X1 8 1 h rfl ?_
 replace h:=h.nil (α:=ByteArray)
 obtain ⟨o2,hF,hK2⟩:=qe hF
 refine ql (rL (fun m e w'=>∃ (S4:Nat→Prop) (p8:Option Addr) (ln2:Nat) (k7:Nat) (x3:(List ByteArray)) (i2:Int),qaL d m x3 i2=some o2∧e=[(1,.pointer (some ⟨bb1,0,none⟩)),(3,.slice p4 x1.length k4),(4,.slice p8 ln2 k7),(23,.slice p3 d.Ac.length k3),(24,.int .i64 (d.Ac.length:Int)),(25,.int .i64 i2)]∧SH w w' [Ch.own S4 (x3:List ByteArray) [.slice p8 ln2 k7],Ch.own S1 (x1:List ByteArray) [.slice p4 x1.length k4],Ch.box bb1 (qaD d p1 p2 p3 k1 k2 k3) 45]) n ⟨_,_,_,_,_,_,hF,rfl,h⟩ rfl ?_)
 rintro m2 e2 w7 ⟨S4,p8,ln2,k7,x3,i2,hF,rfl,h⟩
 obtain rfl:=(h.sl 0 rfl).2
 rcases m2 with _|m2
 ·cases hF
 refine X0 5 rfl (qg rfl hF ?_ ?_)<;>intro hF
 ·refine zKSBSR ?_
  obtain ⟨y2,hy2,hF,he2,b2,_,q2,cs3,hp2,hq2,hr2,hc4⟩:=s3.ix hF
  obtain rfl:=qah hr2
  refine zxe hp2 hq2 he2 rfl (zc 0 (hc4.below h.below) rfl (qB qb h rfl rfl rfl fun w8 bb3 h=>zs 0 h rfl fun w9 h=>X1 5 0 h rfl (qR qb [.tmp 31] _ ([y2.Aq]:List ByteArray) h rfl rfl rfl rfl rfl rfl rfl rfl rfl ⟨rfl,trivial⟩ rfl fun w10 p9 S5 h=>?_)))
  obtain ⟨x4,hx2,hF⟩:=qe hF
  obtain ⟨g2,hx2⟩:=qam hx2
  refine qcG qb 2 h rfl (h.sl 0 rfl).1 (h.sl 0 rfl).2 rfl rfl rfl rfl rfl rfl rfl rfl rfl g2 hx2 rfl fun w11 p10 k8 S6 h=>X0 7 rfl ?_
  replace h:=h.pick [2,3,4] rfl
  exact rK ⟨_,_,_,_,_,_,hF,rfl,h⟩ rfl
 refine qq rfl ?_
 obtain rfl:=qa hF;replace hF:=hK2
 refine X0 6 rfl (qi (t:=38) hF rfl ?_ ?_)<;>intro hF
 ·refine X1 10 2 h rfl (qi (t:=44) hF rfl ?_ ?_)<;>intro hF
  ·refine X0 8 rfl (qi (t:=49) hF rfl ?_ ?_)<;>intro hF
   ·refine X0 3 rfl (zcB h hF (qeh (h.own 1 rfl)) rfl fun r1 w12 h hF=>zp2 rfl (qi (t:=53) hF rfl ?_ ?_))<;>intro hF
    ·refine X1 5 2 h rfl (zcB h hF (qeh ⟨_,_,rfl,(h.oldS s2)⟩) rfl fun r2 w13 h hF=>zp2 rfl (qi (t:=58) hF rfl ?_ ?_))<;>intro hF
     ·exact X0 3 rfl (zcB h hF (qeh (h.own 0 rfl)) rfl fun r3 w14 h hF=>X0 3 rfl (rb h hF rfl))
     exact X0 5 rfl (rb h hF rfl)
    exact X0 10 rfl (rb h hF rfl)
   exact X0 14 rfl (rb h hF rfl)
  exact X0 19 rfl (rb h hF rfl)
 exact X0 25 rfl (rb h hF rfl)
def qeS (_:Nat) (list:(List qn)):Option Int :=
 some (list.length:Int)
theorem qim {list:(List qn)} (ha1:GoT.R w (old w) list cs1) {r:Int} (hF:qeS n list=some r):RetV Tryz.prog 151 [GoT.v (List qn) cs1] w r:=by
 obtain ⟨p1,k1,rfl,s1⟩:=ha1
 exact zV 5 Tryz.func151 rfl fun h=>X0 10 rfl (ri h hF rfl)
def qfT (_:Nat) (list:(List ByteArray)):Option Int :=
 some (list.length:Int)
theorem qi8 {list:(List ByteArray)} (ha1:GoT.R w (old w) list cs1) {r:Int} (hF:qfT n list=some r):RetV Tryz.prog 153 [GoT.v (List ByteArray) cs1] w r:=by
 obtain ⟨p1,k1,rfl,s1⟩:=ha1
 exact zV 5 Tryz.func153 rfl fun h=>X0 10 rfl (ri h hF rfl)
def qcy (n:Nat) (d:qc) (net:Int):Option Bool :=
 (qfT n d.Af).bind fun r1 =>
 (qar n net 0 (W64 (r1-1))).bind fun r2 =>
 some r2
theorem qff {d:qc} {net:Int} (ha1:GoT.R w (old w) d cs1) {r:Bool} (hF:qcy n d net=some r):RetV Tryz.prog 112 [GoT.v qc cs1,.int .i64 net] w r:=by
 obtain ⟨p1,k1,p2,k2,p3,k3,rfl,s1,s2,s3⟩:=qK ha1
 exact zV 11 Tryz.func112 rfl fun h=>zSR (qr h rfl rfl fun w1 bb1 h=>X1 7 0 h rfl (zcI h hF (qi8 ⟨_,_,rfl,(h.oldS s2)⟩) rfl fun r1 w2 h hF=>zp1 rfl (zcB h hF qae rfl fun r2 w3 h hF=>X0 2 rfl (rb h hF rfl))))
def qcn (n:Nat) (net:Int) (v0:qc):Option Bool :=
 (qcy n v0 net).bind fun r1 =>
 some (!r1)
theorem qhz {net:Int} {v0:qc} {p1:Option Addr} (ha1:GoT.R w (old w) (some v0) [.pointer p1]) {r:Bool} (hF:qcn n net v0=some r):RetV Tryz.prog 152 [.int .i64 net,.pointer p1] w r:=by
 obtain ⟨b1,o_1,cs1,rfl,-,hr1,hc1⟩:=PtR.get ha1 rfl
 obtain ⟨p2,k1,p3,k2,p4,k3,rfl,s1,s2,s3⟩:=qK hr1
 exact zV 8 Tryz.func152 rfl fun h=>X0 6 rfl (zc 0 (hc1.below h.below) rfl (zp1 rfl (zcB h hF (qff (qai v0 (h.oldS s1) (h.oldS s2) (h.oldS s3))) rfl fun r1 w1 h hF=>X0 3 rfl (rb h hF rfl))))
def qx (s:(List Int)) (f_0:qc):Nat→Int→Option (Flow Int Int)
 | 0,_=>none
 | n+1,i1 =>
  bif decide (i1<(s.length:Int)) then
   (idx s i1).bind fun y1 =>
   (qcn n y1 f_0).bind fun r1 =>
   bif r1 then some (.ret i1) else
   qx s f_0 n (W64 (i1+1))
  else
   some (.nxt i1)
def qav (n:Nat) (s:(List Int)) (f_0:qc):Option Int :=
 (qx s f_0 n 0).bind fun o=>match o with
 | .ret r=>some r
 | .nxt _ =>
  some (-1)
theorem qdl {s:(List Int)} {f_0:qc} (ha1:GoT.R w (old w) s cs1) {p2:Option Addr} (ha2:GoT.R w (old w) (some f_0) [.pointer p2]) {r:Int} (hF:qav n s f_0=some r):RetV Tryz.prog 155 [GoT.v (List Int) cs1,.func (.func 152) #[] #[.pointer p2]] w r:=by
 obtain ⟨p1,k1,rfl,s1⟩:=ha1
 obtain ⟨b1,o_1,cs2,rfl,-,hr1,hc1⟩:=PtR.get ha2 rfl
 obtain ⟨p3,k2,p4,k3,p5,k4,rfl,s2,s3,s4⟩:=qK hr1
 refine zV 19 Tryz.func155 rfl fun h=>X0 11 rfl ?_
 obtain ⟨o1,hF,hK1⟩:=qe hF
 refine ql (rL (fun m e w'=>∃ (i1:Int),qx s f_0 m i1=some o1∧e=[(0,.slice p1 s.length k1),(1,.func (.func 152) #[] #[.pointer (some ⟨b1,o_1,none⟩)]),(7,.int .i64 (s.length:Int)),(8,.int .i64 i1)]∧SH w w' []) n ⟨_,hF,rfl,h⟩ rfl ?_)
 rintro m1 e1 w1 ⟨i1,hF,rfl,h⟩
 rcases m1 with _|m1
 ·cases hF
 refine X0 5 rfl (qg rfl hF ?_ ?_)<;>intro hF
 ·refine X0 13 rfl ?_
  obtain ⟨y1,hy1,hF,he1,b2,_,q1,cs3,hp1,hq1,rfl,hc3⟩:=s1.ix hF
  refine zxe hp1 hq1 he1 rfl (zc 0 (hc3.below h.below) rfl (zcB h hF (qhz (h.old ha2)) rfl fun r1 w2 h hF=>qdk (qg rfl hF ?_ ?_)))<;>intro hF
  ·refine X0 5 rfl ?_
   obtain rfl:=qa hF;replace hF:=hK1
   exact ri h hF rfl
  exact X0 6 rfl (rK ⟨_,hF,rfl,h⟩ rfl)
 refine qq rfl ?_
 obtain rfl:=qa hF;replace hF:=hK1
 exact X0 4 rfl (ri h hF rfl)
def qaq (n:Nat) (s:(List Int)) (f_0:qc):Option Bool :=
 (qav n s f_0).bind fun r1 =>
 some (decide (r1 ≥ 0))
theorem qcN {s:(List Int)} {f_0:qc} (ha1:GoT.R w (old w) s cs1) {p2:Option Addr} (ha2:GoT.R w (old w) (some f_0) [.pointer p2]) {r:Bool} (hF:qaq n s f_0=some r):RetV Tryz.prog 122 [GoT.v (List Int) cs1,.func (.func 152) #[] #[.pointer p2]] w r:=by
 obtain ⟨p1,k1,rfl,s1⟩:=ha1
 obtain ⟨b1,o_1,cs2,rfl,-,hr1,hc1⟩:=PtR.get ha2 rfl
 obtain ⟨p3,k2,p4,k3,p5,k4,rfl,s2,s3,s4⟩:=qK hr1
 exact zV 9 Tryz.func122 rfl fun h=>X0 8 rfl (zcI h hF (qdl ⟨_,_,rfl,(h.oldS s1)⟩ (h.old ha2)) rfl fun r1 w1 h hF=>X0 3 rfl (rb h hF rfl))
def qcQ (n:Nat) (d:qc) (l:qh) (x:qd):Option Bool :=
 (qeS n l.Ai).bind fun r1 =>
 (qar n x.Bg 0 (W64 (r1-1))).bind fun r2 =>
 bif r2 then
  (idx l.Ai x.Bg).bind fun y1 =>
  bif ((x.Af.length:Int)==(y1.Am.length:Int)) then
   (qaq n x.Af d).bind fun r3 =>
   some (!r3)
  else
   some false
 else
  some false
theorem qh2 {d:qc} {l:qh} {x:qd} (ha1:GoT.R w (old w) d cs1) (ha2:GoT.R w (old w) l cs2) (ha3:GoT.R w (old w) x cs3) {r:Bool} (hF:qcQ n d l x=some r):RetV Tryz.prog 111 [GoT.v qc cs1,GoT.v qh cs2,GoT.v qd cs3] w r:=by
 obtain ⟨p1,k1,p2,k2,p3,k3,rfl,s1,s2,s3⟩:=qK ha1
 obtain ⟨p4,k4,rfl,s4⟩:=qU ha2
 obtain ⟨p5,k5,rfl,s5⟩:=qG ha3
 refine zV 35 Tryz.func111 rfl fun h=>zSR (qr h rfl rfl fun w1 bb1 h=>qr h rfl rfl fun w2 bb2 h=>qr h rfl rfl fun w3 bb3 h=>X0 3 rfl (rD (Y1 2 0 h rfl ?_)))
 refine Y1 2 1 h rfl ?_
 obtain ⟨r1,hr1,hF⟩:=qe hF
 refine qbk r1 (vsI _) (cB 151 rfl) (fun _ hb=>qim ⟨_,_,rfl,((h.ext hb).oldS s4)⟩ hr1) rfl rfl rfl rfl (zd1 rfl ?_)
 obtain ⟨r2,hr2,hF⟩:=qe hF
 refine qbk r2 (vsB _) (cB 115 rfl) (fun _ hb=>qae  hr2) rfl rfl rfl rfl (zd1 rfl (qbm (t:=14) hF rfl ?_ ?_))<;>intro hF
 ·refine Y1 4 0 h rfl ?_
  refine Y1 6 1 h rfl ?_
  refine Y1 4 0 h rfl ?_
  refine Y0 1 rfl ?_
  obtain ⟨y1,hy1,hF,he1,b1,_,q1,cs4,hp1,hq1,hr3,hc1⟩:=s4.ix hF
  obtain ⟨p6,k6,p7,k7,p8,k8,rfl,s6,s7,s8⟩:=qL hr3
  refine zdxe hp1 hq1 he1 rfl (Y0 3 rfl (zdc 2 (hc1.below h.below) rfl (Y0 6 rfl (qbm (t:=28) hF rfl ?_ ?_))))<;>intro hF
  ·refine Y1 4 0 h rfl ?_
   refine Y0 3 rfl ?_
   obtain ⟨r3,hr4,hF⟩:=qe hF
   exact qbk r3 (vsB _) (cB 122 rfl) (fun _ hb=>qcN ⟨_,_,rfl,((h.ext hb).oldS s5)⟩ (qga (x:=d) 2 (h.ext hb) rfl ((h.ext hb).old ha1)) hr4) rfl rfl rfl rfl (Y0 4 rfl (dN h fun w4 h=>rb h hF rfl))
  exact Y0 7 rfl (dN h fun w5 h=>rb h hF rfl)
 exact Y0 21 rfl (dN h fun w6 h=>rb h hF rfl)
def qg8 (_:Nat) (a_n:Int):Option Bool :=
 some (a_n != 1)
theorem qjX {a_n:Int}  {r:Bool} (hF:qg8 n a_n=some r):RetV Tryz.prog 114 [.int .i64 a_n] w r:=by
 exact zV 5 Tryz.func114 rfl fun h=>X0 10 rfl (rb h hF rfl)
def qO (s:(List Int)):Nat→Int→Option (Flow Int Int)
 | 0,_=>none
 | n+1,i1 =>
  bif decide (i1<(s.length:Int)) then
   (idx s i1).bind fun y1 =>
   (qg8 n y1).bind fun r1 =>
   bif r1 then some (.ret i1) else
   qO s n (W64 (i1+1))
  else
   some (.nxt i1)
def qbp (n:Nat) (s:(List Int)):Option Int :=
 (qO s n 0).bind fun o=>match o with
 | .ret r=>some r
 | .nxt _ =>
  some (-1)
theorem qe3 {s:(List Int)} (ha1:GoT.R w (old w) s cs1) {r:Int} (hF:qbp n s=some r):RetV Tryz.prog 154 [GoT.v (List Int) cs1,.func (.func 114) #[] #[]] w r:=by
 obtain ⟨p1,k1,rfl,s1⟩:=ha1
 refine zV 19 Tryz.func154 rfl fun h=>X0 11 rfl ?_
 obtain ⟨o1,hF,hK1⟩:=qe hF
 refine ql (rL (fun m e w'=>∃ (i1:Int),qO s m i1=some o1∧e=[(0,.slice p1 s.length k1),(1,.func (.func 114) #[] #[]),(7,.int .i64 (s.length:Int)),(8,.int .i64 i1)]∧SH w w' []) n ⟨_,hF,rfl,h⟩ rfl ?_)
 rintro m1 e1 w1 ⟨i1,hF,rfl,h⟩
 rcases m1 with _|m1
 ·cases hF
 refine X0 5 rfl (qg rfl hF ?_ ?_)<;>intro hF
 ·refine X0 13 rfl ?_
  obtain ⟨y1,hy1,hF,he1,b1,_,q1,cs2,hp1,hq1,rfl,hc2⟩:=s1.ix hF
  refine zxe hp1 hq1 he1 rfl (zc 0 (hc2.below h.below) rfl (zcB h hF qjX rfl fun r1 w2 h hF=>qdk (qg rfl hF ?_ ?_)))<;>intro hF
  ·refine X0 5 rfl ?_
   obtain rfl:=qa hF;replace hF:=hK1
   exact ri h hF rfl
  exact X0 6 rfl (rK ⟨_,hF,rfl,h⟩ rfl)
 refine qq rfl ?_
 obtain rfl:=qa hF;replace hF:=hK1
 exact X0 4 rfl (ri h hF rfl)
def qa7 (n:Nat) (s:(List Int)):Option Bool :=
 (qbp n s).bind fun r1 =>
 some (decide (r1 ≥ 0))
theorem qeB {s:(List Int)} (ha1:GoT.R w (old w) s cs1) {r:Bool} (hF:qa7 n s=some r):RetV Tryz.prog 113 [GoT.v (List Int) cs1,.func (.func 114) #[] #[]] w r:=by
 obtain ⟨p1,k1,rfl,s1⟩:=ha1
 exact zV 9 Tryz.func113 rfl fun h=>X0 8 rfl (zcI h hF (qe3 ⟨_,_,rfl,(h.oldS s1)⟩) rfl fun r1 w1 h hF=>X0 3 rfl (rb h hF rfl))
def qbF (a_1:qc):Nat→(List Int)→Int→Option (Flow Bool ((List Int) × Int))
 | 0,_,_=>none
 | n+1,x3,i2 =>
  bif decide (i2<(a_1.Ac.length:Int)) then
   (idx a_1.Ac i2).bind fun y5 =>
   (
    bif (y5.Bl != 1) then
     bif (y5.Bl != 2) then some true else
     (qcy n a_1 y5.Bn).bind fun r2 =>
     some (!r2)
    else
     (qcy n a_1 y5.Bn).bind fun r3 =>
     some (!r3)).bind fun b7 =>
   bif b7 then some (.ret false) else
   bif (y5.Bl==1) then
    (idx x3 y5.Bn).bind fun y6 =>
    (idx x3 y5.Bn).bind fun _ =>
    qbF a_1 n (setS x3 y5.Bn (W64 (y6+1))) (W64 (i2+1))
   else
    qbF a_1 n x3 (W64 (i2+1))
  else
   some (.nxt (x3,i2))
def qcb (a_0:qh) (a_1:qc):Nat→(List Int)→Int→Option (Flow Bool ((List Int) × Int))
 | 0,_,_=>none
 | n+1,x2,i1 =>
  bif decide (i1<(a_1.Aa.length:Int)) then
   (idx a_1.Aa i1).bind fun y1 =>
   (qcQ n a_1 a_0 y1).bind fun r1 =>
   bif (!r1) then some (.ret false) else
   (idx y1.Af (W64 ((y1.Af.length:Int)-1))).bind fun y2 =>
   (idx x2 y2).bind fun y3 =>
   (idx x2 y2).bind fun _ =>
   qcb a_0 a_1 n (setS x2 y2 (W64 (y3+1))) (W64 (i1+1))
  else
   some (.nxt (x2,i1))
def qgI (n:Nat) (a_0:qh) (a_1:qc):Option Bool :=
 (
  (qgn n a_0).bind fun r5 =>
  bif (!r5) then some true else
  (qdL n a_1).bind fun r6 =>
  some (!r6)).bind fun b1 =>
 bif b1 then some false else
 (mkS (a_1.Af.length:Int) (0:Int)).bind fun x1 =>
 (qcb a_0 a_1 n x1 0).bind fun o=>match o with
 | .ret r=>some r
 | .nxt (x2,_) =>
  (qbF a_1 n x2 0).bind fun o=>match o with
  | .ret r=>some r
  | .nxt (x3,_) =>
   (qa7 n x3).bind fun r4 =>
   some (!r4)
theorem qkJ {a_0:qh} {a_1:qc} (ha1:GoT.R w (old w) a_0 cs1) (ha2:GoT.R w (old w) a_1 cs2) {r:Bool} (hF:qgI n a_0 a_1=some r):RetV Tryz.prog 69 [GoT.v qh cs1,GoT.v qc cs2] w r:=by
 obtain ⟨p1,k1,rfl,s1⟩:=qU ha1
 obtain ⟨p2,k2,p3,k3,p4,k4,rfl,s2,s3,s4⟩:=qK ha2
 refine zV 84 Tryz.func69 rfl fun h=>zSR (qr h rfl rfl fun w1 bb1 h=>qr h rfl rfl fun w2 bb2 h=>X0 4 rfl ?_)
 obtain ⟨KF2,hKF2,o4,hF,hK4⟩:=bindE hF
 refine qbx (fun e w'=>∃ (b1:Bool),KF2 b1=some r∧e=[(2,.pointer (some ⟨bb1,0,none⟩)),(3,.pointer (some ⟨bb2,0,none⟩)),(17,.bool b1)]∧SH w w' [Ch.box bb2 (qaD a_1 p2 p3 p4 k2 k3 k4) 45,Ch.box bb1 [.slice p1 a_0.Ai.length k1] 41]) ?_ ?_
 ·refine X1 2 1 h rfl (zcB h hF (qkx (h.old ha1)) rfl fun r5 w17 h hF=>zp2 rfl (qi (t:=13) hF rfl ?_ ?_))<;>intro hF
  ·refine X0 5 rfl ?_
   obtain rfl:=qa hF
   exact rG ⟨_,hK4,rfl,h⟩ rfl
  refine X1 3 0 h rfl (zcB h hF (qiu (h.old ha2)) rfl fun r6 w18 h hF=>X0 4 rfl ?_)
  obtain rfl:=qa hF
  exact rG ⟨_,hK4,rfl,h⟩ rfl
 rintro e4 w19 ⟨b1,hF,rfl,h⟩
 subst hKF2
 refine qg rfl hF ?_ ?_<;>intro hF
 ·exact X0 4 rfl (rb h hF rfl)
 refine X1 6 0 h rfl ?_
 obtain ⟨x1,hx1,hF⟩:=qe hF
 obtain ⟨g1,g2,hx1⟩:=qcM hx1
 refine qdY qb Int h rfl rfl rfl rfl rfl rfl rfl rfl rfl g1 g2 hx1 rfl fun w3 S1 p5 h=>X1 10 1 h rfl ?_
 obtain ⟨o1,hF,hK1⟩:=qe hF
 refine ql (rL (fun m e w'=>∃ (x2:(List Int)) (i1:Int),qcb a_0 a_1 m x2 i1=some o1∧e=[(2,.pointer (some ⟨bb1,0,none⟩)),(3,.pointer (some ⟨bb2,0,none⟩)),(5,.slice p5 x1.length x1.length),(23,.slice p2 a_1.Aa.length k2),(24,.int .i64 (a_1.Aa.length:Int)),(25,.int .i64 i1)]∧SH w w' [Ch.own S1 (x2:List Int) [.slice p5 x1.length x1.length],Ch.box bb2 (qaD a_1 p2 p3 p4 k2 k3 k4) 45,Ch.box bb1 [.slice p1 a_0.Ai.length k1] 41]) n ⟨_,_,hF,rfl,h⟩ rfl ?_)
 rintro m1 e1 w4 ⟨x2,i1,hF,rfl,h⟩
 rcases m1 with _|m1
 ·cases hF
 refine X0 5 rfl (qg rfl hF ?_ ?_)<;>intro hF
 ·refine zKSBSR ?_
  obtain ⟨y1,hy1,hF,he1,b2,_,q1,cs3,hp1,hq1,hr1,hc3⟩:=s2.ix hF
  obtain ⟨p6,k5,rfl,s5⟩:=qG hr1
  refine zxe hp1 hq1 he1 rfl (zc 0 (hc3.below h.below) rfl (qB qb h rfl rfl rfl fun w5 bb3 h=>zs 0 h rfl fun w6 h=>X3 7 2 3 0 h rfl (zcB h hF (qh2 (h.old ha2) (h.old ha1) (qeP y1 (h.oldS s5))) rfl fun r1 w7 h hF=>X0 2 rfl (qg rfl hF ?_ ?_))))<;>intro hF
  ·refine X0 4 rfl ?_
   obtain rfl:=qa hF;replace hF:=hK1
   exact rb h hF rfl
  refine X2 9 0 0 h rfl ?_
  obtain ⟨y2,hy2,hF,he2,b3,_,q2,cs4,hp2,hq2,rfl,hc5⟩:=s5.ix hF
  refine zxe hp2 hq2 he2 rfl (zc 0 (hc5.below h.below) rfl ?_)
  obtain ⟨y3,hy3,hF,he3,b4,_,q3,cs5,hp3,hq3,rfl,hc6⟩:=(h.sl 1 rfl).1.ix hF
  refine zx hp3 hq3 ⟨he3.1,qI he3.2.1 (h.sl 1 rfl).2⟩ rfl (zc 0 hc6 rfl (zp1 rfl ?_))
  obtain ⟨y4,hy4,hF,he4,b5,_,q4,cs6,hp4,hq4,rfl,hc7⟩:=(h.sl 1 rfl).1.ix hF
  refine zx hp4 hq4 ⟨he4.1,qI he4.2.1 (h.sl 1 rfl).2⟩ rfl (qbK qb 1 0 (W64 (y3+1)) h rfl hy4 hp4 hq4 rfl hc7 rfl rfl rfl rfl rfl rfl rfl fun w8 h=>X0 6 rfl ?_)
  replace h:=h.pick [1,2,3] rfl
  exact rK ⟨_,_,hF,rfl,h⟩ rfl
 refine qq rfl ?_
 obtain rfl:=qa hF;replace hF:=hK1
 refine X1 8 1 h rfl ?_
 obtain ⟨o2,hF,hK2⟩:=qe hF
 refine ql ?_
 replace h:=h.pick [0,1] rfl
 refine rL (fun m e w'=>∃ (x3:(List Int)) (i2:Int),qbF a_1 m x3 i2=some o2∧e=[(3,.pointer (some ⟨bb2,0,none⟩)),(5,.slice p5 x1.length x1.length),(49,.slice p4 a_1.Ac.length k4),(50,.int .i64 (a_1.Ac.length:Int)),(51,.int .i64 i2)]∧SH w w' [Ch.own S1 (x3:List Int) [.slice p5 x1.length x1.length],Ch.box bb2 (qaD a_1 p2 p3 p4 k2 k3 k4) 45]) n ⟨_,_,hF,rfl,h⟩ rfl ?_
 rintro m2 e2 w9 ⟨x3,i2,hF,rfl,h⟩
 rcases m2 with _|m2
 ·cases hF
 refine X0 5 rfl (qg rfl hF ?_ ?_)<;>intro hF
 ·refine zKSBSR ?_
  obtain ⟨y5,hy5,hF,he5,b6,_,q5,cs7,hp5,hq5,hr6,hc9⟩:=s4.ix hF
  obtain rfl:=qah hr6
  refine zxe hp5 hq5 he5 rfl (zc 0 (hc9.below h.below) rfl (qB qb h rfl rfl rfl fun w10 bb4 h=>zs 0 h rfl fun w11 h=>zNSS ?_))
  obtain ⟨KF1,hKF1,o3,hF,hK3⟩:=bindE hF
  refine qbx (fun e w'=>∃ (b7:Bool),KF1 b7=some o2∧e=[(3,.pointer (some ⟨bb2,0,none⟩)),(5,.slice p5 x1.length x1.length),(9,.pointer (some ⟨bb4,0,none⟩)),(49,.slice p4 a_1.Ac.length k4),(50,.int .i64 (a_1.Ac.length:Int)),(51,.int .i64 i2),(69,.bool b7)]∧SH w w' [Ch.box bb4 (qlG y5) 172,Ch.own S1 (x3:List Int) [.slice p5 x1.length x1.length],Ch.box bb2 (qaD a_1 p2 p3 p4 k2 k3 k4) 45]) ?_ ?_
  ·refine X1 5 0 h rfl (qi (t:=58) hF rfl ?_ ?_)<;>intro hF
   ·refine X1 8 0 h rfl (qi (t:=63) hF rfl ?_ ?_)<;>intro hF
    ·refine X0 7 rfl ?_
     obtain rfl:=qa hF
     exact rG ⟨_,hK3,rfl,h⟩ rfl
    refine X2 7 2 0 h rfl (zcB h hF (qff (h.old ha2)) rfl fun r2 w13 h hF=>X0 4 rfl ?_)
    obtain rfl:=qa hF
    exact rG ⟨_,hK3,rfl,h⟩ rfl
   refine X2 12 2 0 h rfl (zcB h hF (qff (h.old ha2)) rfl fun r3 w14 h hF=>X0 4 rfl ?_)
   obtain rfl:=qa hF
   exact rG ⟨_,hK3,rfl,h⟩ rfl
  rintro e3 w15 ⟨b7,hF,rfl,h⟩
  subst hKF1
  refine qg rfl hF ?_ ?_<;>intro hF
  ·refine X0 4 rfl ?_
   obtain rfl:=qa hF;replace hF:=hK2
   exact rb h hF rfl
  refine X1 7 0 h rfl (qg rfl hF ?_ ?_)<;>intro hF
  ·refine X1 4 0 h rfl ?_
   obtain ⟨y6,hy6,hF,he6,b8,_,q6,cs8,hp6,hq6,rfl,hc12⟩:=(h.sl 1 rfl).1.ix hF
   refine zx hp6 hq6 ⟨he6.1,qI he6.2.1 (h.sl 1 rfl).2⟩ rfl (zc 0 hc12 rfl (zp1 rfl ?_))
   obtain ⟨y7,hy7,hF,he7,b9,_,q7,cs9,hp7,hq7,rfl,hc13⟩:=(h.sl 1 rfl).1.ix hF
   refine zx hp7 hq7 ⟨he7.1,qI he7.2.1 (h.sl 1 rfl).2⟩ rfl (qbK qb 1 0 (W64 (y6+1)) h rfl hy7 hp7 hq7 rfl hc13 rfl rfl rfl rfl rfl rfl rfl fun w12 h=>X0 6 rfl ?_)
   replace h:=h.pick [1,2] rfl
   exact rK ⟨_,_,hF,rfl,h⟩ rfl
  refine X0 6 rfl ?_
  replace h:=h.pick [1,2] rfl
  exact rK ⟨_,_,hF,rfl,h⟩ rfl
 refine qq rfl ?_
 obtain rfl:=qa hF;replace hF:=hK2
 exact X0 3 rfl (zcB h hF (qeB (h.own 0 rfl)) rfl fun r4 w16 h hF=>X0 3 rfl (rb h hF rfl))
def qa6 (i1:Int) (y1:qd):Nat→(List Tplace)→Int→Option ((List Tplace) × Int)
 | 0,_,_=>none
 | n+1,x2,i2 =>
  bif decide (i2<(y1.Af.length:Int)) then
   (idx y1.Af i2).bind fun y2 =>
   (appS x2 ([(⟨i1,i2,y2,(i2==(W64 ((y1.Af.length:Int)-1)))⟩:Tplace)]:List Tplace)).bind fun x3 =>
   qa6 i1 y1 n x3 (W64 (i2+1))
  else
   some (x2,i2)
def qa4 (d:qc):Nat→(List Tplace)→Int→Option ((List Tplace) × Int)
 | 0,_,_=>none
 | n+1,x4,i3 =>
  bif decide (i3<(d.Ac.length:Int)) then
   (idx d.Ac i3).bind fun y3 =>
   (appS x4 ([(⟨(-1),i3,y3.Bn,(y3.Bl==1)⟩:Tplace)]:List Tplace)).bind fun x5 =>
   qa4 d n x5 (W64 (i3+1))
  else
   some (x4,i3)
def qa5 (d:qc):Nat→(List Tplace)→Int→Option ((List Tplace) × Int)
 | 0,_,_=>none
 | n+1,x1,i1 =>
  bif decide (i1<(d.Aa.length:Int)) then
   (idx d.Aa i1).bind fun y1 =>
   (qa6 i1 y1 n x1 0).bind fun o=>match o with
   | (x2,_) =>
    qa5 d n x2 (W64 (i1+1))
  else
   some (x1,i1)
def qbf (n:Nat) (d:qc):Option (List Tplace) :=
 (qa5 d n ([]:List Tplace) 0).bind fun o=>match o with
 | (x1,_) =>
  (qa4 d n x1 0).bind fun o=>match o with
  | (x4,_) =>
   some x4
theorem qb9 {d:qc} (ha1:GoT.R w (old w) d cs1) {r:(List Tplace)} (hF:qbf n d=some r):RetV Tryz.prog 70 [GoT.v qc cs1] w r:=by
 obtain ⟨p1,k1,p2,k2,p3,k3,rfl,s1,s2,s3⟩:=qK ha1
 refine zV 61 Tryz.func70 rfl fun h=>zSR (qr h rfl rfl fun w1 bb1 h=>X1 14 0 h rfl ?_)
 replace h:=h.nil (α:=Tplace)
 obtain ⟨o1,hF,hK1⟩:=qe hF
 refine ql (rL (fun m e w'=>∃ (S1:Nat→Prop) (p4:Option Addr) (ln1:Nat) (k4:Nat) (x1:(List Tplace)) (i1:Int),qa5 d m x1 i1=some o1∧e=[(1,.pointer (some ⟨bb1,0,none⟩)),(3,.slice p4 ln1 k4),(11,.slice p1 d.Aa.length k1),(12,.int .i64 (d.Aa.length:Int)),(13,.int .i64 i1)]∧SH w w' [Ch.own S1 (x1:List Tplace) [.slice p4 ln1 k4],Ch.box bb1 (qaD d p1 p2 p3 k1 k2 k3) 45]) n ⟨_,_,_,_,_,_,hF,rfl,h⟩ rfl ?_)
 rintro m1 e1 w2 ⟨S1,p4,ln1,k4,x1,i1,hF,rfl,h⟩
 obtain rfl:=(h.sl 0 rfl).2
 rcases m1 with _|m1
 ·cases hF
 refine X0 5 rfl (qg rfl hF ?_ ?_)<;>intro hF
 ·refine X0 6 rfl ?_
  obtain ⟨y1,hy1,hF,he1,b1,_,q1,cs2,hp1,hq1,hr1,hc2⟩:=s1.ix hF
  obtain ⟨p5,k5,rfl,s4⟩:=qG hr1
  refine zxe hp1 hq1 he1 rfl (zc 0 (hc2.below h.below) rfl (qB qb h rfl rfl rfl fun w3 bb2 h=>zp1 rfl (zs 0 h rfl fun w4 h=>X1 8 0 h rfl ?_)))
  obtain ⟨o2,hF,hK2⟩:=qe hF
  refine ql (rL (fun m e w'=>∃ (S2:Nat→Prop) (p6:Option Addr) (ln2:Nat) (k6:Nat) (x2:(List Tplace)) (i2:Int),qa6 i1 y1 m x2 i2=some o2∧e=[(1,.pointer (some ⟨bb1,0,none⟩)),(3,.slice p6 ln2 k6),(4,.int .i64 i1),(5,.pointer (some ⟨bb2,0,none⟩)),(11,.slice p1 d.Aa.length k1),(12,.int .i64 (d.Aa.length:Int)),(13,.int .i64 i1),(19,.slice p5 y1.Af.length k5),(20,.int .i64 (y1.Af.length:Int)),(21,.int .i64 i2)]∧SH w w' [Ch.box bb2 (qgS y1 p5 k5) 121,Ch.own S2 (x2:List Tplace) [.slice p6 ln2 k6],Ch.box bb1 (qaD d p1 p2 p3 k1 k2 k3) 45]) m1 ⟨_,_,_,_,_,_,hF,rfl,h⟩ rfl ?_)
  rintro m2 e2 w5 ⟨S2,p6,ln2,k6,x2,i2,hF,rfl,h⟩
  obtain rfl:=(h.sl 1 rfl).2
  rcases m2 with _|m2
  ·cases hF
  refine X0 5 rfl (qg rfl hF ?_ ?_)<;>intro hF
  ·refine X0 6 rfl ?_
   obtain ⟨y2,hy2,hF,he2,b2,_,q2,cs3,hp2,hq2,rfl,hc4⟩:=s4.ix hF
   refine zxe hp2 hq2 he2 rfl (zc 0 (hc4.below h.below) rfl (X1 14 0 h rfl (r_v (qb6 qb [0,1,2,3] [.tmp 27,.tmp 28,.tmp 29,.tmp 35] rfl rfl rfl rfl rfl rfl rfl rfl) rfl (qR qb [.tmp 36] _ ([(⟨i1,i2,y2,(i2==(W64 ((y1.Af.length:Int)-1)))⟩:Tplace)]:List Tplace) h rfl rfl rfl rfl rfl rfl rfl rfl rfl ⟨(qfb (⟨i1,i2,y2,(i2==(W64 ((y1.Af.length:Int)-1)))⟩:Tplace)),trivial⟩ rfl fun w6 p7 S3 h=>?_))))
   obtain ⟨x3,hx1,hF⟩:=qe hF
   obtain ⟨g1,hx1⟩:=qam hx1
   refine qcG qb 2 h rfl (h.sl 0 rfl).1 (h.sl 0 rfl).2 rfl rfl rfl rfl rfl rfl rfl rfl rfl g1 hx1 rfl fun w7 p8 k7 S4 h=>X0 7 rfl ?_
   replace h:=h.pick [1,2,3] rfl
   exact rK ⟨_,_,_,_,_,_,hF,rfl,h⟩ rfl
  refine qq rfl ?_
  obtain rfl:=qa hF;replace hF:=hK2
  refine X0 5 rfl ?_
  replace h:=h.pick [1,2] rfl
  exact rK ⟨_,_,_,_,_,_,hF,rfl,h⟩ rfl
 refine qq rfl ?_
 obtain rfl:=qa hF;replace hF:=hK1
 refine X1 8 1 h rfl ?_
 obtain ⟨o3,hF,hK3⟩:=qe hF
 refine ql ?_
 replace h:=h.pick [0] rfl
 refine rL (fun m e w'=>∃ (S5:Nat→Prop) (p9:Option Addr) (ln3:Nat) (k8:Nat) (x4:(List Tplace)) (i3:Int),qa4 d m x4 i3=some o3∧e=[(3,.slice p9 ln3 k8),(42,.slice p3 d.Ac.length k3),(43,.int .i64 (d.Ac.length:Int)),(44,.int .i64 i3)]∧SH w w' [Ch.own S5 (x4:List Tplace) [.slice p9 ln3 k8]]) n ⟨_,_,_,_,_,_,hF,rfl,h⟩ rfl ?_
 rintro m3 e3 w8 ⟨S5,p9,ln3,k8,x4,i3,hF,rfl,h⟩
 obtain rfl:=(h.sl 0 rfl).2
 rcases m3 with _|m3
 ·cases hF
 refine X0 5 rfl (qg rfl hF ?_ ?_)<;>intro hF
 ·refine X0 6 rfl ?_
  obtain ⟨y3,hy3,hF,he3,b3,_,q3,cs4,hp3,hq3,hr3,hc6⟩:=s3.ix hF
  obtain rfl:=qah hr3
  refine zxe hp3 hq3 he3 rfl (zc 0 (hc6.below h.below) rfl (qB qb h rfl rfl rfl fun w9 bb3 h=>zp1 rfl (zs 0 h rfl fun w10 h=>X2 9 0 0 h rfl (r_v (qb6 qb [0,1,2,3] [.const (.int .i64 (-1)),.tmp 50,.tmp 52,.tmp 55] rfl rfl rfl rfl rfl rfl rfl rfl) rfl (qR qb [.tmp 56] _ ([(⟨(-1),i3,y3.Bn,(y3.Bl==1)⟩:Tplace)]:List Tplace) h rfl rfl rfl rfl rfl rfl rfl rfl rfl ⟨(qfb (⟨(-1),i3,y3.Bn,(y3.Bl==1)⟩:Tplace)),trivial⟩ rfl fun w11 p10 S6 h=>?_)))))
  obtain ⟨x5,hx2,hF⟩:=qe hF
  obtain ⟨g2,hx2⟩:=qam hx2
  refine qcG qb 2 h rfl (h.sl 0 rfl).1 (h.sl 0 rfl).2 rfl rfl rfl rfl rfl rfl rfl rfl rfl g2 hx2 rfl fun w12 p11 k9 S7 h=>X0 7 rfl ?_
  replace h:=h.pick [2] rfl
  exact rK ⟨_,_,_,_,_,_,hF,rfl,h⟩ rfl
 refine qq rfl ?_
 obtain rfl:=qa hF;replace hF:=hK3
 refine X0 5 rfl ?_
 obtain rfl:=qa hF
 exact rO 0 h rfl ⟨rfl,trivial⟩
def qaG (a_w:qw):Nat→Int→Option (Flow Bool Int)
 | 0,_=>none
 | n+1,i1 =>
  bif decide (i1<(a_w.Ak.length:Int)) then
   (idx a_w.Ak i1).bind fun y1 =>
   bif (i1==0) then
    bif (y1 != (-1)) then some (.ret false) else
    (idx a_w.Bm 0).bind fun y2 =>
    bif (y2 != 0) then some (.ret false) else
    bif decide (i1 > 0) then
     (qar n y1 0 (W64 (i1-1))).bind fun r1 =>
     bif (!r1) then some (.ret false) else
     qaG a_w n (W64 (i1+1))
    else
     qaG a_w n (W64 (i1+1))
   else
    bif decide (i1 > 0) then
     (qar n y1 0 (W64 (i1-1))).bind fun r2 =>
     bif (!r2) then some (.ret false) else
     qaG a_w n (W64 (i1+1))
    else
     qaG a_w n (W64 (i1+1))
  else
   some (.nxt i1)
def qfu (n:Nat) (a_w:qw):Option Bool :=
 (qaG a_w n 0).bind fun o=>match o with
 | .ret r=>some r
 | .nxt _ =>
  some true
theorem qjM {a_w:qw} (ha1:GoT.R w (old w) a_w cs1) {r:Bool} (hF:qfu n a_w=some r):RetV Tryz.prog 116 [GoT.v qw cs1] w r:=by
 obtain ⟨p1,k1,p2,k2,p3,k3,p4,k4,rfl,s1,s2,s3,s4⟩:=qaU ha1
 refine zV 38 Tryz.func116 rfl fun h=>zSR (qr h rfl rfl fun w1 bb1 h=>X1 10 0 h rfl ?_)
 obtain ⟨o1,hF,hK1⟩:=qe hF
 refine ql (rL (fun m e w'=>∃ (i1:Int),qaG a_w m i1=some o1∧e=[(1,.pointer (some ⟨bb1,0,none⟩)),(6,.slice p1 a_w.Ak.length k1),(7,.int .i64 (a_w.Ak.length:Int)),(8,.int .i64 i1)]∧SH w w' [Ch.box bb1 (qgi a_w p1 p2 p3 p4 k1 k2 k3 k4) 109]) n ⟨_,hF,rfl,h⟩ rfl ?_)
 rintro m1 e1 w2 ⟨i1,hF,rfl,h⟩
 rcases m1 with _|m1
 ·cases hF
 refine X0 5 rfl (qg rfl hF ?_ ?_)<;>intro hF
 ·refine X0 6 rfl ?_
  obtain ⟨y1,hy1,hF,he1,b1,_,q1,cs2,hp1,hq1,rfl,hc2⟩:=s1.ix hF
  refine zxe hp1 hq1 he1 rfl (zc 0 (hc2.below h.below) rfl (X0 8 rfl (qi (t:=15) hF rfl ?_ ?_)))<;>intro hF
  ·refine X0 6 rfl (qi (t:=18) hF rfl ?_ ?_)<;>intro hF
   ·refine X0 20 rfl (qdp rfl rfl (X0 4 rfl ?_))
    obtain rfl:=qa hF;replace hF:=hK1
    exact rb h hF rfl
   refine X1 5 0 h rfl ?_
   obtain ⟨y2,hy2,hF,he2,b2,_,q2,cs3,hp2,hq2,rfl,hc3⟩:=s2.ix hF
   refine zxe hp2 hq2 he2 rfl (X0 1 rfl (zc 0 (hc3.below h.below) rfl (X0 6 rfl (qi (t:=26) hF rfl ?_ ?_))))<;>intro hF
   ·refine X0 11 rfl (qdp rfl rfl (X0 4 rfl ?_))
    obtain rfl:=qa hF;replace hF:=hK1
    exact rb h hF rfl
   refine X0 6 rfl (qi (t:=29) hF rfl ?_ ?_)<;>intro hF
   ·refine X0 7 rfl (zcB h hF qae rfl fun r1 w3 h hF=>X0 6 rfl (qg rfl hF ?_ ?_))<;>intro hF
    ·refine X0 4 rfl ?_
     obtain rfl:=qa hF;replace hF:=hK1
     exact rb h hF rfl
    exact X0 6 rfl (rK ⟨_,hF,rfl,h⟩ rfl)
   exact X0 9 rfl (qfi rfl rfl (X0 6 rfl (rK ⟨_,hF,rfl,h⟩ rfl)))
  refine X0 17 rfl (qi (t:=29) hF rfl ?_ ?_)<;>intro hF
  ·refine X0 7 rfl (zcB h hF qae rfl fun r2 w4 h hF=>X0 6 rfl (qg rfl hF ?_ ?_))<;>intro hF
   ·refine X0 4 rfl ?_
    obtain rfl:=qa hF;replace hF:=hK1
    exact rb h hF rfl
   exact X0 6 rfl (rK ⟨_,hF,rfl,h⟩ rfl)
  exact X0 9 rfl (qfi rfl rfl (X0 6 rfl (rK ⟨_,hF,rfl,h⟩ rfl)))
 refine qq rfl ?_
 obtain rfl:=qa hF;replace hF:=hK1
 exact X0 4 rfl (rb h hF rfl)
def qh5 (n:Nat) (a_w:qw) (sinks:Int):Option Bool :=
 (qaN n a_w.Ak).bind fun r1 =>
 (qar n r1 1 8).bind fun r2 =>
 bif r2 then
  (qaN n a_w.Bm).bind fun r3 =>
  bif (r3==r1) then
   (qaN n a_w.Bk).bind fun r4 =>
   bif (r4==r1) then
    (qfu n a_w).bind fun r5 =>
    bif r5 then
     (qbe n a_w.Bm 0 1000).bind fun r6 =>
     bif r6 then
      (qbe n a_w.Bk 0 500).bind fun r7 =>
      bif r7 then
       (qaN n a_w.Bc).bind fun r8 =>
       bif (r8==sinks) then
        (qbe n a_w.Bc 0 (W64 (r1-1))).bind fun r9 =>
        some r9
       else
        some false
      else
       some false
     else
      some false
    else
     some false
   else
    some false
  else
   some false
 else
  some false
theorem qmm {a_w:qw} {sinks:Int} (ha1:GoT.R w (old w) a_w cs1) {r:Bool} (hF:qh5 n a_w sinks=some r):RetV Tryz.prog 71 [GoT.v qw cs1,.int .i64 sinks] w r:=by
 obtain ⟨p1,k1,p2,k2,p3,k3,p4,k4,rfl,s1,s2,s3,s4⟩:=qaU ha1
 refine zV 53 Tryz.func71 rfl fun h=>zSR (qr h rfl rfl fun w1 bb1 h=>X1 6 0 h rfl (zcI h hF (qbH ⟨_,_,rfl,(h.oldS s1)⟩) rfl fun r1 w2 h hF=>X0 5 rfl (zcB h hF qae rfl fun r2 w3 h hF=>zp1 rfl (qi (t:=11) hF rfl ?_ ?_))))<;>intro hF
 ·refine X1 5 0 h rfl (zcI h hF (qbH ⟨_,_,rfl,(h.oldS s2)⟩) rfl fun r3 w4 h hF=>X0 6 rfl (qi (t:=18) hF rfl ?_ ?_))<;>intro hF
  ·refine X1 5 0 h rfl (zcI h hF (qbH ⟨_,_,rfl,(h.oldS s3)⟩) rfl fun r4 w5 h hF=>X0 6 rfl (qi (t:=25) hF rfl ?_ ?_))<;>intro hF
   ·refine X1 3 0 h rfl (zcB h hF (qjM (h.old ha1)) rfl fun r5 w6 h hF=>zp2 rfl (qi (t:=29) hF rfl ?_ ?_))<;>intro hF
    ·refine X1 5 0 h rfl (zcB h hF (qbJ ⟨_,_,rfl,(h.oldS s2)⟩) rfl fun r6 w7 h hF=>zp2 rfl (qi (t:=34) hF rfl ?_ ?_))<;>intro hF
     ·refine X1 5 0 h rfl (zcB h hF (qbJ ⟨_,_,rfl,(h.oldS s3)⟩) rfl fun r7 w8 h hF=>zp2 rfl (qi (t:=39) hF rfl ?_ ?_))<;>intro hF
      ·refine X1 5 0 h rfl (zcI h hF (qbH ⟨_,_,rfl,(h.oldS s4)⟩) rfl fun r8 w9 h hF=>X0 6 rfl (qi (t:=46) hF rfl ?_ ?_))<;>intro hF
       ·exact X1 9 0 h rfl (zcB h hF (qbJ ⟨_,_,rfl,(h.oldS s4)⟩) rfl fun r9 w10 h hF=>X0 3 rfl (rb h hF rfl))
       exact X0 8 rfl (rb h hF rfl)
      exact X0 15 rfl (rb h hF rfl)
     exact X0 20 rfl (rb h hF rfl)
    exact X0 25 rfl (rb h hF rfl)
   exact X0 29 rfl (rb h hF rfl)
  exact X0 36 rfl (rb h hF rfl)
 exact X0 43 rfl (rb h hF rfl)
def qdB (b:qm) (x2:(List Int)):Nat→Int→Option (Flow Bool Int)
 | 0,_=>none
 | n+1,i2 =>
  bif decide (i2<(b.Aj.length:Int)) then
   (idx b.Aj i2).bind fun y4 =>
   (idx x2 i2).bind fun y5 =>
   (qh5 n y4 y5).bind fun r2 =>
   bif (!r2) then some (.ret false) else
   qdB b x2 n (W64 (i2+1))
  else
   some (.nxt i2)
def qb3 (r1:(List Tplace)):Nat→(List Int)→Int→Option ((List Int) × Int)
 | 0,_,_=>none
 | n+1,x2,i1 =>
  bif decide (i1<(r1.length:Int)) then
   (idx r1 i1).bind fun y1 =>
   bif (!y1.drives) then
    (idx x2 y1.net).bind fun y2 =>
    (idx x2 y1.net).bind fun _ =>
    qb3 r1 n (setS x2 y1.net (W64 (y2+1))) (W64 (i1+1))
   else
    qb3 r1 n x2 (W64 (i1+1))
  else
   some (x2,i1)
def qhk (n:Nat) (b:qm):Option Bool :=
 (
  (qgI n (⟨b.Ah.Ai⟩:qh) (⟨b.Ab.Aa,b.Ab.Af,b.Ab.Ac⟩:qc)).bind fun r3 =>
  bif (!r3) then some true else
  some ((b.Aj.length:Int) != (b.Ab.Af.length:Int))).bind fun b1 =>
 bif b1 then some false else
 (mkS (b.Aj.length:Int) (0:Int)).bind fun x1 =>
 (qbf n (⟨b.Ab.Aa,b.Ab.Af,b.Ab.Ac⟩:qc)).bind fun r1 =>
 (qb3 r1 n x1 0).bind fun o=>match o with
 | (x2,_) =>
  (qdB b x2 n 0).bind fun o=>match o with
  | .ret r=>some r
  | .nxt _ =>
   some true
theorem qlz {b:qm} (ha1:GoT.R w (old w) b cs1) {r:Bool} (hF:qhk n b=some r):RetV Tryz.prog 36 [GoT.v qm cs1] w r:=by
 obtain ⟨p1,k1,p2,k2,p3,k3,p4,k4,p5,k5,rfl,s1,s2,s3,s4,s5⟩:=qaa ha1
 refine zV 63 Tryz.func36 rfl fun h=>zSR (qr h rfl rfl fun w1 bb1 h=>X0 4 rfl ?_)
 obtain ⟨KF1,hKF1,o3,hF,hK3⟩:=bindE hF
 refine qbx (fun e w'=>∃ (b1:Bool),KF1 b1=some r∧e=[(1,.pointer (some ⟨bb1,0,none⟩)),(23,.bool b1)]∧SH w w' [Ch.box bb1 (qaI b p1 p2 p3 p4 p5 k1 k2 k3 k4 k5) 48]) ?_ ?_
 ·refine X2 5 0 0 h rfl (zcB h hF (qkJ (qaV _ (h.oldS s1)) (qai _ (h.oldS s2) (h.oldS s3) (h.oldS s4))) rfl fun r3 w12 h hF=>zp2 rfl (qi (t:=14) hF rfl ?_ ?_))<;>intro hF
  ·refine X0 10 rfl ?_
   obtain rfl:=qa hF
   exact rG ⟨_,hK3,rfl,h⟩ rfl
  refine X2 18 0 0 h rfl ?_
  obtain rfl:=qa hF
  exact rG ⟨_,hK3,rfl,h⟩ rfl
 rintro e3 w13 ⟨b1,hF,rfl,h⟩
 subst hKF1
 refine qg rfl hF ?_ ?_<;>intro hF
 ·exact X0 4 rfl (rb h hF rfl)
 refine X1 6 0 h rfl ?_
 obtain ⟨x1,hx1,hF⟩:=qe hF
 obtain ⟨g1,g2,hx1⟩:=qcM hx1
 refine qdY qb Int h rfl rfl rfl rfl rfl rfl rfl rfl rfl g1 g2 hx1 rfl fun w2 S1 p6 h=>X1 7 1 h rfl (zcL h hF (qb9 (qai _ (h.oldS s2) (h.oldS s3) (h.oldS s4))) rfl fun r1 w3 S2 p7 k6 h hF=>X0 3 rfl ?_)
 obtain ⟨o1,hF,hK1⟩:=qe hF
 refine ql (rL (fun m e w'=>∃ (x2:(List Int)) (i1:Int),qb3 r1 m x2 i1=some o1∧e=[(1,.pointer (some ⟨bb1,0,none⟩)),(3,.slice p6 x1.length x1.length),(30,.slice p7 r1.length k6),(31,.int .i64 (r1.length:Int)),(32,.int .i64 i1)]∧SH w w' [Ch.own S2 (r1:List Tplace) [.slice p7 r1.length k6],Ch.own S1 (x2:List Int) [.slice p6 x1.length x1.length],Ch.box bb1 (qaI b p1 p2 p3 p4 p5 k1 k2 k3 k4 k5) 48]) n ⟨_,_,hF,rfl,h⟩ rfl ?_)
 rintro m1 e1 w4 ⟨x2,i1,hF,rfl,h⟩
 rcases m1 with _|m1
 ·cases hF
 refine X0 5 rfl (qg rfl hF ?_ ?_)<;>intro hF
 ·refine zKSBSR ?_
  obtain ⟨y1,hy1,hF,he1,b2,_,q1,cs2,hp1,hq1,hr2,hc3⟩:=(h.sl 0 rfl).1.ix hF
  obtain rfl:=qdI hr2
  refine zx hp1 hq1 ⟨he1.1,qI he1.2.1 (h.sl 0 rfl).2⟩ rfl (zc 0 hc3 rfl (qB qb h rfl rfl rfl fun w5 bb2 h=>zs 0 h rfl fun w6 h=>X1 7 0 h rfl (qg rfl hF ?_ ?_)))<;>intro hF
  ·refine X1 4 0 h rfl ?_
   obtain ⟨y2,hy2,hF,he2,b3,_,q2,cs3,hp2,hq2,rfl,hc5⟩:=(h.sl 2 rfl).1.ix hF
   refine zx hp2 hq2 ⟨he2.1,qI he2.2.1 (h.sl 2 rfl).2⟩ rfl (zc 0 hc5 rfl (zp1 rfl ?_))
   obtain ⟨y3,hy3,hF,he3,b4,_,q3,cs4,hp3,hq3,rfl,hc6⟩:=(h.sl 2 rfl).1.ix hF
   refine zx hp3 hq3 ⟨he3.1,qI he3.2.1 (h.sl 2 rfl).2⟩ rfl (qbK qb 2 0 (W64 (y2+1)) h rfl hy3 hp3 hq3 rfl hc6 rfl rfl rfl rfl rfl rfl rfl fun w7 h=>X0 6 rfl ?_)
   replace h:=h.pick [1,2,3] rfl
   exact rK ⟨_,_,hF,rfl,h⟩ rfl
  refine X0 6 rfl ?_
  replace h:=h.pick [1,2,3] rfl
  exact rK ⟨_,_,hF,rfl,h⟩ rfl
 refine qq rfl ?_
 obtain rfl:=qa hF;replace hF:=hK1
 refine X1 8 2 h rfl ?_
 obtain ⟨o2,hF,hK2⟩:=qe hF
 refine ql ?_
 replace h:=h.pick [1] rfl
 refine rL (fun m e w'=>∃ (i2:Int),qdB b x2 m i2=some o2∧e=[(3,.slice p6 x1.length x1.length),(48,.slice p5 b.Aj.length k5),(49,.int .i64 (b.Aj.length:Int)),(50,.int .i64 i2)]∧SH w w' [Ch.own S1 (x2:List Int) [.slice p6 x1.length x1.length]]) n ⟨_,hF,rfl,h⟩ rfl ?_
 rintro m2 e2 w8 ⟨i2,hF,rfl,h⟩
 rcases m2 with _|m2
 ·cases hF
 refine X0 5 rfl (qg rfl hF ?_ ?_)<;>intro hF
 ·refine X0 6 rfl ?_
  obtain ⟨y4,hy4,hF,he4,b5,_,q4,cs5,hp4,hq4,hr5,hc8⟩:=s5.ix hF
  obtain ⟨p8,k7,p9,k8,p10,k9,p11,k10,rfl,s6,s7,s8,s9⟩:=qaU hr5
  refine zxe hp4 hq4 he4 rfl (zc 0 (hc8.below h.below) rfl (qB qb h rfl rfl rfl fun w9 bb3 h=>zp1 rfl (zs 0 h rfl fun w10 h=>zNS (rD (Y1 1 0 h rfl ?_)))))
  refine zd2 rfl ?_
  obtain ⟨y5,hy5,hF,he5,b6,_,q5,cs6,hp5,hq5,rfl,hc9⟩:=(h.sl 1 rfl).1.ix hF
  refine zdx hp5 hq5 ⟨he5.1,qI he5.2.1 (h.sl 1 rfl).2⟩ rfl (zdc 0 hc9 rfl ?_)
  obtain ⟨r2,hr7,hF⟩:=qe hF
  refine qbk r2 (vsB _) (cB 71 rfl) (fun _ hb=>qmm (qhD y4 ((h.ext hb).oldS s6) ((h.ext hb).oldS s7) ((h.ext hb).oldS s8) ((h.ext hb).oldS s9)) hr7) rfl rfl rfl rfl (zd1 rfl (dN h fun w11 h=>qg rfl hF ?_ ?_))<;>intro hF
  ·refine X0 4 rfl ?_
   obtain rfl:=qa hF;replace hF:=hK2
   exact rb h hF rfl
  refine X0 6 rfl ?_
  replace h:=h.pick [1] rfl
  exact rK ⟨_,hF,rfl,h⟩ rfl
 refine qq rfl ?_
 obtain rfl:=qa hF;replace hF:=hK2
 exact X0 4 rfl (rb h hF rfl)
end Go.Fw


namespace Go.Fw
open Go
def qad (a:(List Int)):Nat:=a.length
theorem qdS {a:(List Int)} (h:(rngL rngI) a) (w:qad a≤1048576):(okL okI) a :=
 ⟨by simp only [qad] at w;omega,fun x hx=>h.2 x hx⟩
def qfZ (x:qp):Prop:=(rngL rngI) x.Bb∧(rngL rngI) x.Ba∧(rngL rngI) x.Au
def qcT (x:qp):Nat:=qad x.Bb+qad x.Ba+qad x.Au
structure qgg (x:qp):Prop where
 Bb:(okL okI) x.Bb
 Ba:(okL okI) x.Ba
 Au:(okL okI) x.Au
theorem qpp {x:qp} (h:qfZ x) (w:qcT x≤1048576):qgg x:=⟨qdS (h.1) (by simp only [qcT] at w;omega),qdS (h.2.1) (by simp only [qcT] at w;omega),qdS (h.2.2) (by simp only [qcT] at w;omega)⟩
def qb7 (a:(List qp)):Nat:=a.length+(a.map fun x=>qcT x).sum
theorem qlf {a:(List qp)} (h:(rngL qfZ) a) (w:qb7 a≤1048576):(okL qgg) a :=
 ⟨by simp only [qb7] at w;omega,fun x hx=>qpp (h.2 x hx) (by have:=qbS (wt:=fun x:qp=>qcT x) hx;simp only [qb7] at w;omega)⟩
def qiT (x:qF):Prop:=rngI x.Ap∧rngI x.Av∧rngI x.To∧rngI x.Bf∧(rngL qfZ) x.Az∧(rngL qfZ) x.Bi
def qgr (x:qF):Nat:=qb7 x.Az+qb7 x.Bi
structure qka (x:qF):Prop where
 Ap:okI x.Ap
 Av:okI x.Av
 To:okI x.To
 Bf:okI x.Bf
 Az:(okL qgg) x.Az
 Bi:(okL qgg) x.Bi
theorem qq0 {x:qF} (h:qiT x) (w:qgr x≤1048576):qka x:=⟨h.1,h.2.1,h.2.2.1,h.2.2.2.1,qlf (h.2.2.2.2.1) (by simp only [qgr] at w;omega),qlf (h.2.2.2.2.2) (by simp only [qgr] at w;omega)⟩
theorem qdy {a:(List Int)} (h:qad a≤1048576):Ev (fun n=>qaB n a a) true:=by
 have hl:a.length≤1048576:=by simp only [qad] at h;omega
 unfold qaB
 exact Ev.ff (by simp) (Ev.bind (b:=.nxt (a.length:Int)) (qhA (eqf:=fun _ x y=>some (!(x != y))) (fun x _=>Ev.now (by simp))
  (fun n=>by simp only [qee,qk (je _),cond_false])
  (fun n j x hx=>by
   have hj:=(List.getElem?_eq_some_iff.1 hx).1
   simp only [qee,qj hj,cond_true,qaf hx,jd,Bool.not_not,wS j])) .done)
theorem qqO {a:qp} (h:qcT a≤1048576):Ev (fun n=>qf2 n a a) true:=by
 unfold qf2
 simp only [qcT] at h
 exact Ev.bind (qdy (a:=a.Bb) (by omega)) (Ev.ff rfl (Ev.bind (qdy (a:=a.Ba) (by omega)) (Ev.ff rfl (Ev.bind (qdy (a:=a.Au) (by omega)) (Ev.ff rfl (.done))))))
theorem qm2 {a:(List qp)} (h:qb7 a≤1048576):Ev (fun n=>qfB n a a) true:=by
 have hl:a.length≤1048576:=by simp only [qb7] at h;omega
 unfold qfB
 exact Ev.ff (by simp) (Ev.bind (b:=.nxt (a.length:Int)) (qhA (eqf:=qf2) (fun x hx=>qqO (by have:=qbS (wt:=fun x:qp=>qcT x) hx;simp only [qb7] at h;omega))
  (fun n=>by simp only [qek,qk (je _),cond_false])
  (fun n j x hx=>by
   have hj:=(List.getElem?_eq_some_iff.1 hx).1
   simp only [qek,qj hj,cond_true,qaf hx,jd,wS j])) .done)
theorem qsP {a:qF} (h:qgr a≤1048576):Ev (fun n=>qhK n a a) true:=by
 unfold qhK
 simp only [qgr] at h
 exact Ev.ff qa2 (Ev.ff qa2 (Ev.ff qa2 (Ev.ff qa2 (Ev.bind (qm2 (a:=a.Az) (by omega)) (Ev.ff rfl (Ev.bind (qm2 (a:=a.Bi) (by omega)) (Ev.ff rfl (.done))))))))
def qfz (a:(List qF)):Nat:=a.length+(a.map fun x=>qgr x).sum
theorem qqj {a:(List qF)} (h:(rngL qiT) a) (w:qfz a≤1048576):(okL qka) a :=
 ⟨by simp only [qfz] at w;omega,fun x hx=>qq0 (h.2 x hx) (by have:=qbS (wt:=fun x:qF=>qgr x) hx;simp only [qfz] at w;omega)⟩
theorem qrR {a:(List qF)} (h:qfz a≤1048576):Ev (fun n=>qh8 n a a) true:=by
 have hl:a.length≤1048576:=by simp only [qfz] at h;omega
 unfold qh8
 exact Ev.ff (by simp) (Ev.bind (b:=.nxt (a.length:Int)) (qhA (eqf:=qhK) (fun x hx=>qsP (by have:=qbS (wt:=fun x:qF=>qgr x) hx;simp only [qfz] at h;omega))
  (fun n=>by simp only [qe4,qk (je _),cond_false])
  (fun n j x hx=>by
   have hj:=(List.getElem?_eq_some_iff.1 hx).1
   simp only [qe4,qj hj,cond_true,qaf hx,jd,wS j])) .done)
def qiH (x:qM):Prop:=rngS x.Aq∧rngI x.Bl∧rngI x.Bk∧rngB x.Be
def qhP (x:qM):Nat:=x.Aq.size
structure qjl (x:qM):Prop where
 Aq:okS x.Aq
 Bl:okI x.Bl
 Bk:okI x.Bk
 Be:okT x.Be
theorem qqH {x:qM} (h:qiH x) (w:qhP x≤1048576):qjl x:=⟨(by unfold okS;simp only [qhP] at w;omega),h.2.1,h.2.2.1,trivial⟩
def qfy (a:(List qM)):Nat:=a.length+(a.map fun x=>qhP x).sum
theorem qqb {a:(List qM)} (h:(rngL qiH) a) (w:qfy a≤1048576):(okL qjl) a :=
 ⟨by simp only [qfy] at w;omega,fun x hx=>qqH (h.2 x hx) (by have:=qbS (wt:=fun x:qM=>qhP x) hx;simp only [qfy] at w;omega)⟩
def qhF (x:qn):Prop:=rngS x.Aq∧rngI x.Ap∧(rngL qiH) x.Am∧(rngL qiT) x.Ar∧(rngL rngI) x.Ay∧rngI x.Bo∧rngI x.Bj
def qel (x:qn):Nat:=x.Aq.size+qfy x.Am+qfz x.Ar+qad x.Ay
structure qjE (x:qn):Prop where
 Aq:okS x.Aq
 Ap:okI x.Ap
 Am:(okL qjl) x.Am
 Ar:(okL qka) x.Ar
 Ay:(okL okI) x.Ay
 Bo:okI x.Bo
 Bj:okI x.Bj
theorem qqe {x:qn} (h:qhF x) (w:qel x≤1048576):qjE x:=⟨(by unfold okS;simp only [qel] at w;omega),h.2.1,qqb (h.2.2.1) (by simp only [qel] at w;omega),qqj (h.2.2.2.1) (by simp only [qel] at w;omega),qdS (h.2.2.2.2.1) (by simp only [qel] at w;omega),h.2.2.2.2.2.1,h.2.2.2.2.2.2⟩
def qeu (a:(List qn)):Nat:=a.length+(a.map fun x=>qel x).sum
theorem qo8 {a:(List qn)} (h:(rngL qhF) a) (w:qeu a≤1048576):(okL qjE) a :=
 ⟨by simp only [qeu] at w;omega,fun x hx=>qqe (h.2 x hx) (by have:=qbS (wt:=fun x:qn=>qel x) hx;simp only [qeu] at w;omega)⟩
def qh6 (x:qh):Prop:=(rngL qhF) x.Ai
def qc7 (x:qh):Nat:=qeu x.Ai
structure qfO (x:qh):Prop where
 Ai:(okL qjE) x.Ai
theorem qn3 {x:qh} (h:qh6 x) (w:qc7 x≤1048576):qfO x:=⟨qo8 (h) (by simp only [qc7] at w;omega)⟩
def qeo (x:qd):Prop:=rngS x.Aq∧rngI x.Bg∧(rngL rngI) x.Af
def qa3 (x:qd):Nat:=x.Aq.size+qad x.Af
structure qjz (x:qd):Prop where
 Aq:okS x.Aq
 Bg:okI x.Bg
 Af:(okL okI) x.Af
theorem qmI {x:qd} (h:qeo x) (w:qa3 x≤1048576):qjz x:=⟨(by unfold okS;simp only [qa3] at w;omega),h.2.1,qdS (h.2.2) (by simp only [qa3] at w;omega)⟩
def qbg (a:(List qd)):Nat:=a.length+(a.map fun x=>qa3 x).sum
theorem qlR {a:(List qd)} (h:(rngL qeo) a) (w:qbg a≤1048576):(okL qjz) a :=
 ⟨by simp only [qbg] at w;omega,fun x hx=>qmI (h.2 x hx) (by have:=qbS (wt:=fun x:qd=>qa3 x) hx;simp only [qbg] at w;omega)⟩
def qc8 (a:(List ByteArray)):Nat:=a.length+(a.map fun x=>x.size).sum
theorem qn4 {a:(List ByteArray)} (_:(rngL rngS) a) (w:qc8 a≤1048576):(okL okS) a :=
 ⟨by simp only [qc8] at w;omega,fun x hx=>(by unfold okS;have:=qbS (wt:=fun x:ByteArray=>x.size) hx;simp only [qc8] at w;omega)⟩
def qhM (x:qy):Prop:=rngS x.Aq∧rngI x.Bl∧rngI x.Bn
def qfQ (x:qy):Nat:=x.Aq.size
structure qnM (x:qy):Prop where
 Aq:okS x.Aq
 Bl:okI x.Bl
 Bn:okI x.Bn
theorem qpT {x:qy} (h:qhM x) (w:qfQ x≤1048576):qnM x:=⟨(by unfold okS;simp only [qfQ] at w;omega),h.2.1,h.2.2⟩
def qen (a:(List qy)):Nat:=a.length+(a.map fun x=>qfQ x).sum
theorem qpt {a:(List qy)} (h:(rngL qhM) a) (w:qen a≤1048576):(okL qnM) a :=
 ⟨by simp only [qen] at w;omega,fun x hx=>qpT (h.2 x hx) (by have:=qbS (wt:=fun x:qy=>qfQ x) hx;simp only [qen] at w;omega)⟩
def qiI (x:qc):Prop:=(rngL qeo) x.Aa∧(rngL rngS) x.Af∧(rngL qhM) x.Ac
def qdn (x:qc):Nat:=qbg x.Aa+qc8 x.Af+qen x.Ac
structure qhC (x:qc):Prop where
 Aa:(okL qjz) x.Aa
 Af:(okL okS) x.Af
 Ac:(okL qnM) x.Ac
theorem qoG {x:qc} (h:qiI x) (w:qdn x≤1048576):qhC x:=⟨qlR (h.1) (by simp only [qdn] at w;omega),qn4 (h.2.1) (by simp only [qdn] at w;omega),qpt (h.2.2) (by simp only [qdn] at w;omega)⟩
def qhI (x:qw):Prop:=(rngL rngI) x.Ak∧(rngL rngI) x.Bm∧(rngL rngI) x.Bk∧(rngL rngI) x.Bc
def qd3 (x:qw):Nat:=qad x.Ak+qad x.Bm+qad x.Bk+qad x.Bc
structure qkF (x:qw):Prop where
 Ak:(okL okI) x.Ak
 Bm:(okL okI) x.Bm
 Bk:(okL okI) x.Bk
 Bc:(okL okI) x.Bc
theorem qqk {x:qw} (h:qhI x) (w:qd3 x≤1048576):qkF x:=⟨qdS (h.1) (by simp only [qd3] at w;omega),qdS (h.2.1) (by simp only [qd3] at w;omega),qdS (h.2.2.1) (by simp only [qd3] at w;omega),qdS (h.2.2.2) (by simp only [qd3] at w;omega)⟩
def qes (a:(List qw)):Nat:=a.length+(a.map fun x=>qd3 x).sum
theorem qpq {a:(List qw)} (h:(rngL qhI) a) (w:qes a≤1048576):(okL qkF) a :=
 ⟨by simp only [qes] at w;omega,fun x hx=>qqk (h.2 x hx) (by have:=qbS (wt:=fun x:qw=>qd3 x) hx;simp only [qes] at w;omega)⟩
def qjJ (x:qm):Prop:=qh6 x.Ah∧qiI x.Ab∧(rngL qhI) x.Aj
def qez (x:qm):Nat:=qc7 x.Ah+qdn x.Ab+qes x.Aj
structure qbP (x:qm):Prop where
 Ah:qfO x.Ah
 Ab:qhC x.Ab
 Aj:(okL qkF) x.Aj
theorem qoV {x:qm} (h:qjJ x) (w:qez x≤1048576):qbP x:=⟨qn3 (h.1) (by simp only [qez] at w;omega),qoG (h.2.1) (by simp only [qez] at w;omega),qpq (h.2.2) (by simp only [qez] at w;omega)⟩
theorem qsI {a:qM} (_:qhP a≤1048576):Ev (fun n=>qhY n a a) true:=by
 unfold qhY
 exact Ev.ff qhf (Ev.ff qa2 (Ev.ff qa2 (Ev.ff qnz (.done))))
theorem qrY {a:(List qM)} (h:qfy a≤1048576):Ev (fun n=>qh9 n a a) true:=by
 have hl:a.length≤1048576:=by simp only [qfy] at h;omega
 unfold qh9
 exact Ev.ff (by simp) (Ev.bind (b:=.nxt (a.length:Int)) (qhA (eqf:=qhY) (fun x hx=>qsI (by have:=qbS (wt:=fun x:qM=>qhP x) hx;simp only [qfy] at h;omega))
  (fun n=>by simp only [qe7,qk (je _),cond_false])
  (fun n j x hx=>by
   have hj:=(List.getElem?_eq_some_iff.1 hx).1
   simp only [qe7,qj hj,cond_true,qaf hx,jd,wS j])) .done)
theorem qrW {a:qn} (h:qel a≤1048576):Ev (fun n=>qg4 n a a) true:=by
 unfold qg4
 simp only [qel] at h
 exact Ev.ff qhf (Ev.ff qa2 (Ev.bind (qrY (a:=a.Am) (by omega)) (Ev.ff rfl (Ev.bind (qrR (a:=a.Ar) (by omega)) (Ev.ff rfl (Ev.bind (qdy (a:=a.Ay) (by omega)) (Ev.ff rfl (Ev.ff qa2 (Ev.ff qa2 (.done))))))))))
theorem qrH {a:(List qn)} (h:qeu a≤1048576):Ev (fun n=>qhi n a a) true:=by
 have hl:a.length≤1048576:=by simp only [qeu] at h;omega
 unfold qhi
 exact Ev.ff (by simp) (Ev.bind (b:=.nxt (a.length:Int)) (qhA (eqf:=qg4) (fun x hx=>qrW (by have:=qbS (wt:=fun x:qn=>qel x) hx;simp only [qeu] at h;omega))
  (fun n=>by simp only [qeK,qk (je _),cond_false])
  (fun n j x hx=>by
   have hj:=(List.getElem?_eq_some_iff.1 hx).1
   simp only [qeK,qj hj,cond_true,qaf hx,jd,wS j])) .done)
theorem qo7 {a:qh} (h:qc7 a≤1048576):Ev (fun n=>qf1 n a a) true:=by
 unfold qf1
 simp only [qc7] at h
 exact Ev.bind (qrH (a:=a.Ai) (by omega)) (Ev.ff rfl (.done))
theorem qok {a:qd} (h:qa3 a≤1048576):Ev (fun n=>qeG n a a) true:=by
 unfold qeG
 simp only [qa3] at h
 exact Ev.ff qhf (Ev.ff qa2 (Ev.bind (qdy (a:=a.Af) (by omega)) (Ev.ff rfl (.done))))
theorem qnP {a:(List qd)} (h:qbg a≤1048576):Ev (fun n=>qfn n a a) true:=by
 have hl:a.length≤1048576:=by simp only [qbg] at h;omega
 unfold qfn
 exact Ev.ff (by simp) (Ev.bind (b:=.nxt (a.length:Int)) (qhA (eqf:=qeG) (fun x hx=>qok (by have:=qbS (wt:=fun x:qd=>qa3 x) hx;simp only [qbg] at h;omega))
  (fun n=>by simp only [qcO,qk (je _),cond_false])
  (fun n j x hx=>by
   have hj:=(List.getElem?_eq_some_iff.1 hx).1
   simp only [qcO,qj hj,cond_true,qaf hx,jd,wS j])) .done)
theorem qoX {a:(List ByteArray)} (h:qc8 a≤1048576):Ev (fun n=>qgc n a a) true:=by
 have hl:a.length≤1048576:=by simp only [qc8] at h;omega
 unfold qgc
 exact Ev.ff (by simp) (Ev.bind (b:=.nxt (a.length:Int)) (qhA (eqf:=fun _ x y=>some (!(x.toList != y.toList))) (fun x _=>Ev.now (by simp))
  (fun n=>by simp only [qdR,qk (je _),cond_false])
  (fun n j x hx=>by
   have hj:=(List.getElem?_eq_some_iff.1 hx).1
   simp only [qdR,qj hj,cond_true,qaf hx,jd,Bool.not_not,wS j])) .done)
theorem qr0 {a:qy} (_:qfQ a≤1048576):Ev (fun n=>qgT n a a) true:=by
 unfold qgT
 exact Ev.ff qhf (Ev.ff qa2 (Ev.ff qa2 (.done)))
theorem qra {a:(List qy)} (h:qen a≤1048576):Ev (fun n=>qht n a a) true:=by
 have hl:a.length≤1048576:=by simp only [qen] at h;omega
 unfold qht
 exact Ev.ff (by simp) (Ev.bind (b:=.nxt (a.length:Int)) (qhA (eqf:=qgT) (fun x hx=>qr0 (by have:=qbS (wt:=fun x:qy=>qfQ x) hx;simp only [qen] at h;omega))
  (fun n=>by simp only [qeJ,qk (je _),cond_false])
  (fun n j x hx=>by
   have hj:=(List.getElem?_eq_some_iff.1 hx).1
   simp only [qeJ,qj hj,cond_true,qaf hx,jd,wS j])) .done)
theorem qp6 {a:qc} (h:qdn a≤1048576):Ev (fun n=>qgH n a a) true:=by
 unfold qgH
 simp only [qdn] at h
 exact Ev.bind (qnP (a:=a.Aa) (by omega)) (Ev.ff rfl (Ev.bind (qoX (a:=a.Af) (by omega)) (Ev.ff rfl (Ev.bind (qra (a:=a.Ac) (by omega)) (Ev.ff rfl (.done))))))
theorem qsr {a:qw} (h:qd3 a≤1048576):Ev (fun n=>qg0 n a a) true:=by
 unfold qg0
 simp only [qd3] at h
 exact Ev.bind (qdy (a:=a.Ak) (by omega)) (Ev.ff rfl (Ev.bind (qdy (a:=a.Bm) (by omega)) (Ev.ff rfl (Ev.bind (qdy (a:=a.Bk) (by omega)) (Ev.ff rfl (Ev.bind (qdy (a:=a.Bc) (by omega)) (Ev.ff rfl (.done))))))))
theorem qro {a:(List qw)} (h:qes a≤1048576):Ev (fun n=>qhm n a a) true:=by
 have hl:a.length≤1048576:=by simp only [qes] at h;omega
 unfold qhm
 exact Ev.ff (by simp) (Ev.bind (b:=.nxt (a.length:Int)) (qhA (eqf:=qg0) (fun x hx=>qsr (by have:=qbS (wt:=fun x:qw=>qd3 x) hx;simp only [qes] at h;omega))
  (fun n=>by simp only [qeD,qk (je _),cond_false])
  (fun n j x hx=>by
   have hj:=(List.getElem?_eq_some_iff.1 hx).1
   simp only [qeD,qj hj,cond_true,qaf hx,jd,wS j])) .done)
theorem qrC {a:qm} (h:qez a≤1048576):Ev (fun n=>qhv n a a) true:=by
 unfold qhv
 simp only [qez] at h
 exact Ev.bind (qo7 (a:=a.Ah) (by omega)) (Ev.ff rfl (Ev.bind (qp6 (a:=a.Ab) (by omega)) (Ev.ff rfl (Ev.bind (qro (a:=a.Aj) (by omega)) (Ev.ff rfl (.done))))))
theorem qfj {a:(List Int)} {left:Int} (h:(rngL rngI) a) (h0:0≤left) (h1:left≤1048576):Sz (fun n=>qbu n a left) (fun r=>r=left-(qad a:Int)) :=
 Sz.less h0 h1 (by omega) (by have:=h.1;omega) (fun _=>rfl)
theorem qrx {a:qp} {left:Int} (h:qfZ a) (h0:0≤left) (h1:left≤1048576):Sz (fun n=>qf7 n a left) (fun r=>r=left-(qcT a:Int)):=by
 unfold qf7
 obtain ⟨h_0,h_1,h_2⟩:=h
 exact Sz.step (qfj (a:=a.Bb) h_0 (by omega) (by omega)) fun r0 p0 q0=>Sz.step (qfj (a:=a.Ba) h_1 (by omega) (by omega)) fun r1 p1 q1=>Sz.step (qfj (a:=a.Au) h_2 (by omega) (by omega)) fun r2 p2 q2=>Sz.done p2 (by simp only [qcT];omega)
theorem qns {a:(List qp)} {left:Int} (h:(rngL qfZ) a) (h0:0≤left) (h1:left≤1048576):Sz (fun n=>qgM n a left) (fun r=>r=left-(qb7 a:Int)) :=
 Sz.list (Lf:=qc2 a) (wt:=fun x:qp=>qcT x) (el:=qf7) h0 h1 h.1 (fun x hx left p q=>qrx (h.2 x hx) p q)
  (fun acc n=>by simp only [qc2,qk (je _),cond_false])
  (fun acc n j x hx=>by
   have hj:=(List.getElem?_eq_some_iff.1 hx).1
   have hl:=h.1
   simp only [qc2,qj hj,cond_true,qaf hx,jd,wS j])
  (fun _=>rfl)
theorem qsC {a:qF} {left:Int} (h:qiT a) (h0:0≤left) (h1:left≤1048576):Sz (fun n=>qhS n a left) (fun r=>r=left-(qgr a:Int)):=by
 unfold qhS
 obtain ⟨h_0,h_1,h_2,h_3,h_4,h_5⟩:=h
 exact Sz.step (qns (a:=a.Az) h_4 (by omega) (by omega)) fun r0 p0 q0=>Sz.step (qns (a:=a.Bi) h_5 (by omega) (by omega)) fun r1 p1 q1=>Sz.done p1 (by simp only [qgr];omega)
theorem qsl {a:(List qF)} {left:Int} (h:(rngL qiT) a) (h0:0≤left) (h1:left≤1048576):Sz (fun n=>qjf n a left) (fun r=>r=left-(qfz a:Int)) :=
 Sz.list (Lf:=qd1 a) (wt:=fun x:qF=>qgr x) (el:=qhS) h0 h1 h.1 (fun x hx left p q=>qsC (h.2 x hx) p q)
  (fun acc n=>by simp only [qd1,qk (je _),cond_false])
  (fun acc n j x hx=>by
   have hj:=(List.getElem?_eq_some_iff.1 hx).1
   have hl:=h.1
   simp only [qd1,qj hj,cond_true,qaf hx,jd,wS j])
  (fun _=>rfl)
theorem qsV {a:qM} {left:Int} (h:qiH a) (h0:0≤left) (h1:left≤1048576):Sz (fun n=>qhV n a left) (fun r=>r=left-(qhP a:Int)):=by
 unfold qhV
 obtain ⟨h_0,h_1,h_2,h_3⟩:=h
 exact Sz.strStep h_0 (by omega) (by omega) fun p0 q0=>Sz.done p0 (by simp only [qhP];omega)
theorem qrV {a:(List qM)} {left:Int} (h:(rngL qiH) a) (h0:0≤left) (h1:left≤1048576):Sz (fun n=>qjv n a left) (fun r=>r=left-(qfy a:Int)) :=
 Sz.list (Lf:=qeg a) (wt:=fun x:qM=>qhP x) (el:=qhV) h0 h1 h.1 (fun x hx left p q=>qsV (h.2 x hx) p q)
  (fun acc n=>by simp only [qeg,qk (je _),cond_false])
  (fun acc n j x hx=>by
   have hj:=(List.getElem?_eq_some_iff.1 hx).1
   have hl:=h.1
   simp only [qeg,qj hj,cond_true,qaf hx,jd,wS j])
  (fun _=>rfl)
theorem qr9 {a:qn} {left:Int} (h:qhF a) (h0:0≤left) (h1:left≤1048576):Sz (fun n=>qgY n a left) (fun r=>r=left-(qel a:Int)):=by
 unfold qgY
 obtain ⟨h_0,h_1,h_2,h_3,h_4,h_5,h_6⟩:=h
 exact Sz.strStep h_0 (by omega) (by omega) fun p0 q0=>Sz.step (qrV (a:=a.Am) h_2 (by omega) (by omega)) fun r1 p1 q1=>Sz.step (qsl (a:=a.Ar) h_3 (by omega) (by omega)) fun r2 p2 q2=>Sz.step (qfj (a:=a.Ay) h_4 (by omega) (by omega)) fun r3 p3 q3=>Sz.done p3 (by simp only [qel];omega)
theorem qrn {a:(List qn)} {left:Int} (h:(rngL qhF) a) (h0:0≤left) (h1:left≤1048576):Sz (fun n=>qiP n a left) (fun r=>r=left-(qeu a:Int)) :=
 Sz.list (Lf:=qdz a) (wt:=fun x:qn=>qel x) (el:=qgY) h0 h1 h.1 (fun x hx left p q=>qr9 (h.2 x hx) p q)
  (fun acc n=>by simp only [qdz,qk (je _),cond_false])
  (fun acc n j x hx=>by
   have hj:=(List.getElem?_eq_some_iff.1 hx).1
   have hl:=h.1
   simp only [qdz,qj hj,cond_true,qaf hx,jd,wS j])
  (fun _=>rfl)
theorem qpe {a:qh} {left:Int} (h:qh6 a) (h0:0≤left) (h1:left≤1048576):Sz (fun n=>qgo n a left) (fun r=>r=left-(qc7 a:Int)):=by
 unfold qgo
 have h_0:=h
 exact Sz.step (qrn (a:=a.Ai) h_0 (by omega) (by omega)) fun r0 p0 q0=>Sz.done p0 (by simp only [qc7];omega)
theorem qoF {a:qd} {left:Int} (h:qeo a) (h0:0≤left) (h1:left≤1048576):Sz (fun n=>qeC n a left) (fun r=>r=left-(qa3 a:Int)):=by
 unfold qeC
 obtain ⟨h_0,h_1,h_2⟩:=h
 exact Sz.strStep h_0 (by omega) (by omega) fun p0 q0=>Sz.step (qfj (a:=a.Af) h_2 (by omega) (by omega)) fun r1 p1 q1=>Sz.done p1 (by simp only [qa3];omega)
theorem qnK {a:(List qd)} {left:Int} (h:(rngL qeo) a) (h0:0≤left) (h1:left≤1048576):Sz (fun n=>qgu n a left) (fun r=>r=left-(qbg a:Int)) :=
 Sz.list (Lf:=qb0 a) (wt:=fun x:qd=>qa3 x) (el:=qeC) h0 h1 h.1 (fun x hx left p q=>qoF (h.2 x hx) p q)
  (fun acc n=>by simp only [qb0,qk (je _),cond_false])
  (fun acc n j x hx=>by
   have hj:=(List.getElem?_eq_some_iff.1 hx).1
   have hl:=h.1
   simp only [qb0,qj hj,cond_true,qaf hx,jd,wS j])
  (fun _=>rfl)
theorem qoU {a:(List ByteArray)} {left:Int} (h:(rngL rngS) a) (h0:0≤left) (h1:left≤1048576):Sz (fun n=>qhH n a left) (fun r=>r=left-(qc8 a:Int)) :=
 Sz.list (Lf:=qcz a) (wt:=fun x:ByteArray=>x.size) (el:=fun _ (x:ByteArray) acc=>some (W64 (acc-(x.size:Int)))) h0 h1 h.1 (fun x hx left p q=>Sz.str (h.2 x hx) p q)
  (fun acc n=>by simp only [qcz,qk (je _),cond_false])
  (fun acc n j x hx=>by
   have hj:=(List.getElem?_eq_some_iff.1 hx).1
   have hl:=h.1
   simp only [qcz,qj hj,cond_true,qaf hx,jd,wS j])
  (fun _=>rfl)
theorem qsm {a:qy} {left:Int} (h:qhM a) (h0:0≤left) (h1:left≤1048576):Sz (fun n=>qg2 n a left) (fun r=>r=left-(qfQ a:Int)):=by
 unfold qg2
 obtain ⟨h_0,h_1,h_2⟩:=h
 exact Sz.strStep h_0 (by omega) (by omega) fun p0 q0=>Sz.done p0 (by simp only [qfQ];omega)
theorem qrp {a:(List qy)} {left:Int} (h:(rngL qhM) a) (h0:0≤left) (h1:left≤1048576):Sz (fun n=>qiZ n a left) (fun r=>r=left-(qen a:Int)) :=
 Sz.list (Lf:=qdC a) (wt:=fun x:qy=>qfQ x) (el:=qg2) h0 h1 h.1 (fun x hx left p q=>qsm (h.2 x hx) p q)
  (fun acc n=>by simp only [qdC,qk (je _),cond_false])
  (fun acc n j x hx=>by
   have hj:=(List.getElem?_eq_some_iff.1 hx).1
   have hl:=h.1
   simp only [qdC,qj hj,cond_true,qaf hx,jd,wS j])
  (fun _=>rfl)
theorem qqG {a:qc} {left:Int} (h:qiI a) (h0:0≤left) (h1:left≤1048576):Sz (fun n=>qgE n a left) (fun r=>r=left-(qdn a:Int)):=by
 unfold qgE
 obtain ⟨h_0,h_1,h_2⟩:=h
 exact Sz.step (qnK (a:=a.Aa) h_0 (by omega) (by omega)) fun r0 p0 q0=>Sz.step (qoU (a:=a.Af) h_1 (by omega) (by omega)) fun r1 p1 q1=>Sz.step (qrp (a:=a.Ac) h_2 (by omega) (by omega)) fun r2 p2 q2=>Sz.done p2 (by simp only [qdn];omega)
theorem qr2 {a:qw} {left:Int} (h:qhI a) (h0:0≤left) (h1:left≤1048576):Sz (fun n=>qgV n a left) (fun r=>r=left-(qd3 a:Int)):=by
 unfold qgV
 obtain ⟨h_0,h_1,h_2,h_3⟩:=h
 exact Sz.step (qfj (a:=a.Ak) h_0 (by omega) (by omega)) fun r0 p0 q0=>Sz.step (qfj (a:=a.Bm) h_1 (by omega) (by omega)) fun r1 p1 q1=>Sz.step (qfj (a:=a.Bk) h_2 (by omega) (by omega)) fun r2 p2 q2=>Sz.step (qfj (a:=a.Bc) h_3 (by omega) (by omega)) fun r3 p3 q3=>Sz.done p3 (by simp only [qd3];omega)
theorem qrv {a:(List qw)} {left:Int} (h:(rngL qhI) a) (h0:0≤left) (h1:left≤1048576):Sz (fun n=>qiU n a left) (fun r=>r=left-(qes a:Int)) :=
 Sz.list (Lf:=qdv a) (wt:=fun x:qw=>qd3 x) (el:=qgV) h0 h1 h.1 (fun x hx left p q=>qr2 (h.2 x hx) p q)
  (fun acc n=>by simp only [qdv,qk (je _),cond_false])
  (fun acc n j x hx=>by
   have hj:=(List.getElem?_eq_some_iff.1 hx).1
   have hl:=h.1
   simp only [qdv,qj hj,cond_true,qaf hx,jd,wS j])
  (fun _=>rfl)
theorem qrF {a:qm} {left:Int} (h:qjJ a) (h0:0≤left) (h1:left≤1048576):Sz (fun n=>qhr n a left) (fun r=>r=left-(qez a:Int)):=by
 unfold qhr
 obtain ⟨h_0,h_1,h_2⟩:=h
 exact Sz.step (qpe (a:=a.Ah) h_0 (by omega) (by omega)) fun r0 p0 q0=>Sz.step (qqG (a:=a.Ab) h_1 (by omega) (by omega)) fun r1 p1 q1=>Sz.step (qrv (a:=a.Aj) h_2 (by omega) (by omega)) fun r2 p2 q2=>Sz.done p2 (by simp only [qez];omega)
theorem qfl {a:(List Int)} (h:qad a≤1048576):Ev (fun n=>qbh n a) a:=by
 have hl:a.length≤1048576:=by simp only [qad] at h;omega
 unfold qbh
 exact Ev.bindN (qgL (by omega)) (Ev.bind (b:=(a,(a.length:Int))) (qhw (cp:=fun _ x=>some x) (fun _ _=>.done)
  (fun acc n=>by simp only [qed,qk (je _),cond_false])
  (fun acc n j x y hx hy=>by
   have hj:=(List.getElem?_eq_some_iff.1 hx).1
   simp only [qed,qj hj,cond_true,qaf hx,qaf hy,jd,wS j])) .done)
theorem qq8 {a:qp} (h:qcT a≤1048576):Ev (fun n=>qgd n a) a:=by
 unfold qgd
 simp only [qcT] at h
 exact Ev.bind (qfl (a:=a.Bb) (by omega)) (Ev.bind (qfl (a:=a.Ba) (by omega)) (Ev.bind (qfl (a:=a.Au) (by omega)) (.done)))
theorem qnp {a:(List qp)} (h:qb7 a≤1048576):Ev (fun n=>qfE n a) a:=by
 have hl:a.length≤1048576:=by simp only [qb7] at h;omega
 unfold qfE
 exact Ev.bindN (qgL (by omega)) (Ev.bind (b:=(a,(a.length:Int))) (qhw (cp:=qgd) (fun x hx=>qq8 (by have:=qbS (wt:=fun x:qp=>qcT x) hx;simp only [qb7] at h;omega))
  (fun acc n=>by simp only [qej,qk (je _),cond_false])
  (fun acc n j x y hx hy=>by
   have hj:=(List.getElem?_eq_some_iff.1 hx).1
   simp only [qej,qj hj,cond_true,qaf hx,qaf hy,jd,wS j])) .done)
theorem qsM {a:qF} (h:qgr a≤1048576):Ev (fun n=>qhT n a) a:=by
 unfold qhT
 simp only [qgr] at h
 exact Ev.bind (qnp (a:=a.Az) (by omega)) (Ev.bind (qnp (a:=a.Bi) (by omega)) (.done))
theorem qso {a:(List qF)} (h:qfz a≤1048576):Ev (fun n=>qia n a) a:=by
 have hl:a.length≤1048576:=by simp only [qfz] at h;omega
 unfold qia
 exact Ev.bindN (qgL (by omega)) (Ev.bind (b:=(a,(a.length:Int))) (qhw (cp:=qhT) (fun x hx=>qsM (by have:=qbS (wt:=fun x:qF=>qgr x) hx;simp only [qfz] at h;omega))
  (fun acc n=>by simp only [qe5,qk (je _),cond_false])
  (fun acc n j x y hx hy=>by
   have hj:=(List.getElem?_eq_some_iff.1 hx).1
   simp only [qe5,qj hj,cond_true,qaf hx,qaf hy,jd,wS j])) .done)
theorem qsU {a:qM} (_:qhP a≤1048576):Ev (fun n=>qhW n a) a:=by
 unfold qhW
 exact .done
theorem qsg {a:(List qM)} (h:qfy a≤1048576):Ev (fun n=>qig n a) a:=by
 have hl:a.length≤1048576:=by simp only [qfy] at h;omega
 unfold qig
 exact Ev.bindN (qgL (by omega)) (Ev.bind (b:=(a,(a.length:Int))) (qhw (cp:=qhW) (fun x hx=>qsU (by have:=qbS (wt:=fun x:qM=>qhP x) hx;simp only [qfy] at h;omega))
  (fun acc n=>by simp only [qfd,qk (je _),cond_false])
  (fun acc n j x y hx hy=>by
   have hj:=(List.getElem?_eq_some_iff.1 hx).1
   simp only [qfd,qj hj,cond_true,qaf hx,qaf hy,jd,wS j])) .done)
theorem qse {a:qn} (h:qel a≤1048576):Ev (fun n=>qg5 n a) a:=by
 unfold qg5
 simp only [qel] at h
 exact Ev.bind (qsg (a:=a.Am) (by omega)) (Ev.bind (qso (a:=a.Ar) (by omega)) (Ev.bind (qfl (a:=a.Ay) (by omega)) (.done)))
theorem qq6 {a:(List qn)} (h:qeu a≤1048576):Ev (fun n=>qhu n a) a:=by
 have hl:a.length≤1048576:=by simp only [qeu] at h;omega
 unfold qhu
 exact Ev.bindN (qgL (by omega)) (Ev.bind (b:=(a,(a.length:Int))) (qhw (cp:=qg5) (fun x hx=>qse (by have:=qbS (wt:=fun x:qn=>qel x) hx;simp only [qeu] at h;omega))
  (fun acc n=>by simp only [qeI,qk (je _),cond_false])
  (fun acc n j x y hx hy=>by
   have hj:=(List.getElem?_eq_some_iff.1 hx).1
   simp only [qeI,qj hj,cond_true,qaf hx,qaf hy,jd,wS j])) .done)
theorem qo0 {a:qh} (h:qc7 a≤1048576):Ev (fun n=>qf6 n a) a:=by
 unfold qf6
 simp only [qc7] at h
 exact Ev.bind (qq6 (a:=a.Ai) (by omega)) (.done)
theorem qoA {a:qd} (h:qa3 a≤1048576):Ev (fun n=>qeE n a) a:=by
 unfold qeE
 simp only [qa3] at h
 exact Ev.bind (qfl (a:=a.Af) (by omega)) (.done)
theorem qnC {a:(List qd)} (h:qbg a≤1048576):Ev (fun n=>qfp n a) a:=by
 have hl:a.length≤1048576:=by simp only [qbg] at h;omega
 unfold qfp
 exact Ev.bindN (qgL (by omega)) (Ev.bind (b:=(a,(a.length:Int))) (qhw (cp:=qeE) (fun x hx=>qoA (by have:=qbS (wt:=fun x:qd=>qa3 x) hx;simp only [qbg] at h;omega))
  (fun acc n=>by simp only [qcL,qk (je _),cond_false])
  (fun acc n j x y hx hy=>by
   have hj:=(List.getElem?_eq_some_iff.1 hx).1
   simp only [qcL,qj hj,cond_true,qaf hx,qaf hy,jd,wS j])) .done)
theorem qpa {a:(List ByteArray)} (h:qc8 a≤1048576):Ev (fun n=>qf0 n a) a:=by
 have hl:a.length≤1048576:=by simp only [qc8] at h;omega
 unfold qf0
 exact Ev.bindN (qgL (by omega)) (Ev.bind (b:=(a,(a.length:Int))) (qhw (cp:=fun _ x=>some x) (fun _ _=>.done)
  (fun acc n=>by simp only [qdQ,qk (je _),cond_false])
  (fun acc n j x y hx hy=>by
   have hj:=(List.getElem?_eq_some_iff.1 hx).1
   simp only [qdQ,qj hj,cond_true,qaf hx,qaf hy,jd,wS j])) .done)
theorem qr6 {a:qy} (_:qfQ a≤1048576):Ev (fun n=>qgR n a) a:=by
 unfold qgR
 exact .done
theorem qrj {a:(List qy)} (h:qen a≤1048576):Ev (fun n=>qhe n a) a:=by
 have hl:a.length≤1048576:=by simp only [qen] at h;omega
 unfold qhe
 exact Ev.bindN (qgL (by omega)) (Ev.bind (b:=(a,(a.length:Int))) (qhw (cp:=qgR) (fun x hx=>qr6 (by have:=qbS (wt:=fun x:qy=>qfQ x) hx;simp only [qen] at h;omega))
  (fun acc n=>by simp only [qeF,qk (je _),cond_false])
  (fun acc n j x y hx hy=>by
   have hj:=(List.getElem?_eq_some_iff.1 hx).1
   simp only [qeF,qj hj,cond_true,qaf hx,qaf hy,jd,wS j])) .done)
theorem qpU {a:qc} (h:qdn a≤1048576):Ev (fun n=>qgJ n a) a:=by
 unfold qgJ
 simp only [qdn] at h
 exact Ev.bind (qnC (a:=a.Aa) (by omega)) (Ev.bind (qpa (a:=a.Af) (by omega)) (Ev.bind (qrj (a:=a.Ac) (by omega)) (.done)))
theorem qrN {a:qw} (h:qd3 a≤1048576):Ev (fun n=>qgW n a) a:=by
 unfold qgW
 simp only [qd3] at h
 exact Ev.bind (qfl (a:=a.Ak) (by omega)) (Ev.bind (qfl (a:=a.Bm) (by omega)) (Ev.bind (qfl (a:=a.Bk) (by omega)) (Ev.bind (qfl (a:=a.Bc) (by omega)) (.done))))
theorem qqY {a:(List qw)} (h:qes a≤1048576):Ev (fun n=>qhs n a) a:=by
 have hl:a.length≤1048576:=by simp only [qes] at h;omega
 unfold qhs
 exact Ev.bindN (qgL (by omega)) (Ev.bind (b:=(a,(a.length:Int))) (qhw (cp:=qgW) (fun x hx=>qrN (by have:=qbS (wt:=fun x:qw=>qd3 x) hx;simp only [qes] at h;omega))
  (fun acc n=>by simp only [qeL,qk (je _),cond_false])
  (fun acc n j x y hx hy=>by
   have hj:=(List.getElem?_eq_some_iff.1 hx).1
   simp only [qeL,qj hj,cond_true,qaf hx,qaf hy,jd,wS j])) .done)
theorem qkg {a:qm} (h:qez a≤1048576):Ev (fun n=>qew n a) a:=by
 unfold qew
 simp only [qez] at h
 exact Ev.bind (qo0 (a:=a.Ah) (by omega)) (Ev.bind (qpU (a:=a.Ab) (by omega)) (Ev.bind (qqY (a:=a.Aj) (by omega)) (.done)))
end Go.Fw


namespace Go.Fw
open Go
set_option maxRecDepth 100000
theorem qdF {n:Nat} {x lo hi:Int}:qY n x lo hi=some (inI x lo hi):=by
 simp only [qY,qjw,qkz];rfl
theorem qdt {n:Nat} {x lo hi:Int}:qar n x lo hi=some (inI x lo hi):=by
 simp only [qar,qjw,qkz];rfl
def bt (s:ByteArray) (j:Nat):Nat:=(s.data.toList.getD j 0).toNat
theorem qmg {s:ByteArray} {j:Nat} (h:j<s.size):atS s (j:Int)=some (bt s j:Int):=by
 have h':j<s.data.size:=h
 have hl:j<s.data.toList.length:=by simpa using h'
 unfold atS
 rw [if_pos (by omega),jC]
 have:s[j]?=some (s.data.toList.getD j 0):=by
  rw [getElem?_pos s j h,jv,jh hl]
  rfl
 rw [this]
 rfl
def letB (b:Nat):Bool:=decide (97≤b)&&decide (b≤122)
def digB (b:Nat):Bool:=decide (48≤b)&&decide (b≤57)
def chB (s:ByteArray) (j:Nat):Bool:=letB (bt s j) || digB (bt s j)&&decide (0<j)
def nameB (s:ByteArray):Bool:=(decide (1≤s.size)&&decide (s.size≤8))&&allN (chB s) s.size
theorem qj3 {s:ByteArray} (h:okS s):Ev (fun n=>qfv n s) (nameB s):=by
 unfold okS at h
 have hL:Ev (fun n=>qcK s n 0) (bif allN (chB s) s.size then .nxt (s.size:Int) else .ret false):=by
  refine qd7 ?_ (fun j hj X hX=>?_)
  ·exact Ev.succ (by simp only [qcK,qk (je _),cond_false];exact .done)
  ·refine Ev.succ ?_
   simp only [qcK,qj hj,cond_true,qmg hj,jd,qjw,qkz,wS j]
   have e1:(decide ((bt s j:Int) ≥ 97)&&decide ((bt s j:Int)≤122))=letB (bt s j):=by unfold letB;rw [jl];simp;omega
   have e2:(decide ((bt s j:Int) ≥ 48)&&decide ((bt s j:Int)≤57))=digB (bt s j):=by unfold digB;rw [jl];simp;omega
   have e3:decide ((j:Int) > 0)=decide (0<j):=by rw [jl];simp
   rw [e1,e2,e3]
   unfold chB
   cases letB (bt s j)<;>cases digB (bt s j)<;>cases decide (0<j)<;>first|exact hX|exact .done
 unfold qfv
 refine Ev.cast (r:=bif allN (chB s) s.size then (decide (1≤s.size)&&decide (s.size≤8)) else false) (Ev.bindB hL (fun _=>?_) (fun _=>.done)) ?_
 ·simp only [qjw,qkz]
  exact Ev.now (by congr 1;rw [jl];simp;omega)
 ·unfold nameB
  cases allN (chB s) s.size<;>simp
def cutset:List UInt8:=[97,98,99,100,101,102,103,104,105,106,107,108,109,110,111,112,113,114,115,116,117,118,119,120,121,122,48,49,50,51,52,53,54,55,56,57]
theorem qmq (b:UInt8):cutset.contains b=(letB b.toNat || digB b.toNat):=by
 have h0:(List.range 256).all (fun m=>cutset.contains (UInt8.ofNat m)==(letB (UInt8.ofNat m).toNat || digB (UInt8.ofNat m).toNat))=true:=by kernel_rfl
 have h:=List.all_eq_true.1 h0 b.toNat (List.mem_range.2 b.toNat_lt)
 rw [beq_iff_eq] at h
 simpa using h
def letters:List UInt8:=[97,98,99,100,101,102,103,104,105,106,107,108,109,110,111,112,113,114,115,116,117,118,119,120,121,122]
theorem qpn (m:Nat) (hm:m<256):decide ((Lib.indexByte letters m.toUInt8) ≥ 0)=letB m:=by
 have h0:(List.range 256).all (fun m=>decide ((Lib.indexByte letters m.toUInt8) ≥ 0)==letB m)=true:=by kernel_rfl
 have h:=List.all_eq_true.1 h0 m (List.mem_range.2 hm)
 rwa [beq_iff_eq] at h
theorem qmO {α:Type} {p:α→Bool} {l:List α}:l.dropWhile p=[]↔∀ x,x ∈ l→p x=true:=by
 induction l with
 | nil=>simp
 | cons y l ih =>
  rw [List.dropWhile_cons]
  by_cases h:p y=true
  ·rw [if_pos h,ih];simp [h]
  ·rw [if_neg h];simp [h]
theorem qmF {α:Type} {p:α→Bool} {l:List α} (h:∀ x,x ∈ l.dropWhile p→p x=true):∀ x,x ∈ l→p x=true:=by
 induction l with
 | nil=>simp
 | cons y l ih =>
  rw [List.dropWhile_cons] at h
  by_cases hy:p y=true
  ·rw [if_pos hy] at h
   intro x hx
   rcases List.mem_cons.1 hx with rfl|hx
   ·exact hy
   ·exact ih h x hx
  ·rw [if_neg hy] at h
   exact h
theorem qrD {l cs:List UInt8}:Lib.trimS l cs=[]↔∀ x,x ∈ l→cs.contains x=true:=by
 unfold Lib.trimS Lib.trimRightS Lib.trimLeftS
 rw [qmO]
 constructor
 ·intro h x hx
  exact qmF (p:=(cs.contains ·)) (l:=l.reverse) (fun y hy=>h y (List.mem_reverse.2 hy)) x (List.mem_reverse.2 hx)
 ·intro h x hx
  exact h x (List.mem_reverse.1 ((List.dropWhile_suffix _).subset (List.mem_reverse.1 hx)))
theorem qaz {a b:ByteArray}:(a.toList==b.toList)=decide (a=b):=by
 rw [jl,beq_iff_eq,decide_eq_true_iff]
 constructor
 ·intro h
  exact ByteArray.ext (by have:=congrArg List.toArray h;simpa [ByteArray.toList_eq] using this)
 ·rintro rfl;rfl
end Go.Fw


namespace Go.Fw
open Go
set_option maxRecDepth 100000
theorem qsv {s:ByteArray} {j:Nat} (h:j<s.data.toList.length):bt s j=(s.data.toList[j]).toNat:=by
 unfold bt;rw [jv,jh h];rfl
theorem qs3 {s:ByteArray} {j:Nat}:bt s j<256:=UInt8.toNat_lt _
theorem qnr {n:Nat} {s:ByteArray} (h:okS s):qgZ n s=some (nameB s):=by
 unfold okS at h
 have hl:s.data.toList.length=s.size:=by simp
 simp only [qgZ,qdt,jd]
 cases hI:inI (s.size:Int) 1 8 with
 | false =>
  have hs:(decide (1≤s.size)&&decide (s.size≤8))=false:=by rw [qqp] at hI;rw [Bool.and_eq_false_iff,decide_eq_false_iff_not,decide_eq_false_iff_not];omega
  simp [nameB,hs]
 | true =>
  have hs:1≤s.size∧s.size≤8:=by rw [qbN] at hI;omega
  have hT:qf8 n s (⟨#[97,98,99,100,101,102,103,104,105,106,107,108,109,110,111,112,113,114,115,116,117,118,119,120,121,122,48,49,50,51,52,53,54,55,56,57]⟩:ByteArray)=some ⟨(Lib.trimS s.data.toList cutset).toArray⟩:=by
   unfold qf8
   rw [if_pos ⟨by omega,by decide,by decide⟩]
   rfl
  rw [hT]
  simp only [cond_true,jd]
  have hE:(((⟨(Lib.trimS s.data.toList cutset).toArray⟩:ByteArray).toList==(⟨#[]⟩:ByteArray).toList))=allN (fun j=>letB (bt s j) || digB (bt s j)) s.size:=by
   rw [qaz,jl,decide_eq_true_iff,qap]
   have:((⟨(Lib.trimS s.data.toList cutset).toArray⟩:ByteArray)=⟨#[]⟩)↔Lib.trimS s.data.toList cutset=[]:=by
    constructor
    ·intro he
     have:=congrArg (fun x:ByteArray=>x.data.toList) he
     simpa using this
    ·intro he;rw [he]
   rw [this,qrD]
   constructor
   ·intro hx j hj
    have hj':j<s.data.toList.length:=by omega
    have:=hx _ (ju hj')
    rw [qmq,←qsv hj'] at this
    exact this
   ·intro hx x hm
    obtain ⟨j,hj,rfl⟩:=jI hm
    have:=hx j (by omega)
    rw [qmq,←qsv hj]
    exact this
  rw [hE]
  have h0:atS s 0=some (bt s 0:Int):=qmg (j:=0) (by omega)
  have hI2:decide (Lib.indexByte letters (bt s 0:Int).toNat.toUInt8 ≥ 0)=letB (bt s 0):=by
   rw [jC];exact qpn _ qs3
  have hF:∀ b:Bool,(bif b then (atS s 0).bind fun y1=>(qe1 n (⟨#[97,98,99,100,101,102,103,104,105,106,107,108,109,110,111,112,113,114,115,116,117,118,119,120,121,122]⟩:ByteArray) (⟨y1⟩:IntK .u8)).bind fun r3=>some (decide (r3 ≥ 0)) else some false)=some (b&&letB (bt s 0)):=by
   intro b
   cases b with
   | false=>rfl
   | true =>
    rw [h0]
    simp only [cond_true,jd,qe1,jB]
    exact congrArg some hI2
  rw [hF]
  congr 1
  have hs':(decide (1≤s.size)&&decide (s.size≤8))=true:=by simp [hs]
  unfold nameB
  rw [hs',jB,jl,jg,qap,qap]
  simp only [chB,Bool.or_eq_true,jg,decide_eq_true_eq]
  constructor
  ·rintro ⟨h1,h2⟩ j hj
   rcases Nat.eq_zero_or_pos j with rfl|hp
   ·exact .inl h2
   ·exact (h1 j hj).imp id (fun h=>⟨h,hp⟩)
  ·intro h1
   refine ⟨fun j hj=>(h1 j hj).imp id (fun h=>h.1),?_⟩
   rcases h1 0 (by omega) with h2|h2
   ·exact h2
   ·omega
def strAt (xs:List ByteArray) (j:Nat):ByteArray:=xs.getD j ByteArray.empty
theorem qku {xs:List ByteArray} {j:Nat} (h:j<xs.length):strAt xs j=xs[j]:=by simp [strAt,h]
theorem qlN {xs:List ByteArray} {j:Nat} (h:j<xs.length):idx xs (j:Int)=some (strAt xs j):=by rw [qct h,qku h]
def neB (xs:List ByteArray) (j i:Nat):Bool:=!decide (strAt xs i=strAt xs j)
def namesB (xs:List ByteArray):Bool:=allN (fun j=>nameB (strAt xs j)&&allN (neB xs j) j) xs.length
theorem qjt {xs:List ByteArray} (h:okL okS xs):Ev (fun n=>qeR n xs) (namesB xs):=by
 have hl:=h.len
 have hL2:∀ j,j<xs.length→Ev (fun n=>qdg xs (j:Int) n 0) (bif allN (neB xs j) j then .nxt (j:Int) else .ret false):=by
  intro j hj
  refine qd7 ?_ (fun i hi X hX=>Ev.succ ?_)
  ·exact Ev.succ (by simp only [qdg,qk (je _),cond_false];exact .done)
  ·simp only [qdg,qj hi,cond_true,qlN (show i<xs.length by omega),qlN hj,jd,qaz,wS i]
   unfold neB
   cases decide (strAt xs i=strAt xs j)
   ·exact hX
   ·exact .done
 have hL1:Ev (fun n=>qdc xs n 0) (bif namesB xs then .nxt (xs.length:Int) else .ret false):=by
  refine qd7 ?_ (fun j hj X hX=>Ev.succ ?_)
  ·exact Ev.succ (by simp only [qdc,qk (je _),cond_false];exact .done)
  ·simp only [qdc,qj hj,cond_true,qlN hj,jd,wS j]
   refine Ev.bind (qj3 (by rw [qku hj];exact h.at hj)) ?_
   cases nameB (strAt xs j)
   ·exact .done
   ·refine Ev.ff rfl (Ev.bind (hL2 j hj) ?_)
    cases allN (neB xs j) j
    ·exact .done
    ·exact hX
 unfold qeR
 refine Ev.bind hL1 ?_
 cases namesB xs<;>exact .done
theorem qoD {xs:List ByteArray} {v:ByteArray} (hl:xs.length≤1048576):Ev (fun n=>qa1 n xs v) (ixL (fun x=>decide (v=x)) xs) :=
 qe6 (fin:=(xs.length:Int)) (Lf:=qax xs v) (pf:=fun _ x=>some (decide (v=x))) (fun _ _=>.done)
  (fun n=>by simp only [qax,qk (je _),cond_false])
  (fun n j x hx=>by
   have hj:=(List.getElem?_eq_some_iff.1 hx).1
   simp only [qax,qj hj,cond_true,qaf hx,jd,qaz,wS j])
  (fun n=>by unfold qa1;congr 1;funext o;cases o<;>rfl)
theorem qlV {xs:List ByteArray} {v:ByteArray} (hl:xs.length≤1048576):Ev (fun n=>qcX n xs v) (xs.any fun x=>decide (v=x)):=by
 unfold qcX
 exact Ev.bind (qoD hl) (Ev.now (by rw [qj5]))
theorem qg1 {xs:List ByteArray} (h:okL okS xs):Ev (fun n=>qcZ n xs) (namesB xs):=by
 have hl:=h.len
 have hL1:Ev (fun n=>qc1 xs n 0) (bif namesB xs then .nxt (xs.length:Int) else .ret false):=by
  refine qd7 ?_ (fun j hj X hX=>Ev.succ ?_)
  ·exact Ev.succ (by simp only [qc1,qk (je _),cond_false];exact .done)
  ·have hs:subS xs 0 (j:Int)=some (xs.take j):=by
    unfold subS
    rw [if_pos ⟨by omega,by omega,by omega⟩]
    simp
   simp only [qc1,qj hj,cond_true,qlN hj,jd,hs,qnr (show okS (strAt xs j) by rw [qku hj];exact h.at hj),wS j]
   cases nameB (strAt xs j)
   ·exact .done
   ·refine Ev.ff rfl (Ev.bind (qlV (by simp;omega)) ?_)
    have:((xs.take j).any fun x=>decide (strAt xs j=x)) = !allN (neB xs j) j:=by
     rw [qoO (d:=ByteArray.empty)]
     congr 1
     rw [List.length_take,Nat.min_eq_left (by omega)]
     refine qfU (fun i hi=>?_)
     unfold neB strAt
     congr 1
     have:(xs.take j).getD i ByteArray.empty=xs.getD i ByteArray.empty:=by simp [jv,hi]
     rw [this]
     exact decide_eq_decide.2 eq_comm
    rw [this]
    cases allN (neB xs j) j
    ·exact .done
    ·exact hX
 unfold qcZ
 refine Ev.bind hL1 ?_
 cases namesB xs<;>exact .done
end Go.Fw


namespace Go.Fw
open Go
set_option maxRecDepth 100000
theorem qmH {n:Nat} {x lo hi:Int}:qfs n x lo hi=some (!inI x lo hi):=by simp only [qfs,qdt,jd]
theorem qeq {xs:List Int} {lo hi:Int} (hl:xs.length≤1048576):Ev (fun n=>qbe n xs lo hi) (xs.all fun x=>inI x lo hi):=by
 have h1:Ev (fun n=>qas n xs lo hi) (ixL (fun x=>!inI x lo hi) xs) :=
  qe6 (fin:=(xs.length:Int)) (Lf:=qJ xs lo hi) (pf:=fun _ x=>some (!inI x lo hi)) (fun _ _=>.done)
   (fun n=>by simp only [qJ,qk (je _),cond_false])
   (fun n j x hx=>by
    have hj:=(List.getElem?_eq_some_iff.1 hx).1
    simp only [qJ,qj hj,cond_true,qaf hx,jd,qmH,wS j])
   (fun n=>by unfold qas;congr 1;funext o;cases o<;>rfl)
 unfold qbe qaS
 refine Ev.bind (Ev.bind h1 (Ev.now rfl)) (Ev.now ?_)
 rw [qj5,qlO]
def stepB (xs:List Int) (j:Nat):Bool:=decide (j=0) || decide (at0 xs (j-1)<at0 xs j)
def incB (xs:List Int):Bool:=allN (stepB xs) xs.length
theorem qha {xs:List Int} (hl:xs.length≤1048576):Ev (fun n=>qcv n xs) (incB xs):=by
 have hL:Ev (fun n=>qaQ xs n 1) (bif incB xs then .nxt (max 1 xs.length:Int) else .ret false):=by
  by_cases h0:xs.length=0
  ·have hb:incB xs=true:=by unfold incB;rw [h0];rfl
   rw [hb]
   refine Ev.succ ?_
   have:decide ((1:Int)<(xs.length:Int))=false:=by rw [h0];decide
   simp only [qaQ,this,cond_false]
   exact Ev.now (by rw [h0];rfl)
  ·have:=qpG (Lf:=qaQ xs) (len:=xs.length) (i0:=1) (f:=stepB xs) (bad:=false) (fin:=.nxt (max 1 xs.length:Int)) (by omega)
    (Ev.succ (by
     simp only [qaQ,qk (je _),cond_false]
     exact Ev.now (by congr 2;omega)))
    (fun j h1 hj X hX=>Ev.succ (by
     simp only [qaQ,qj hj,cond_true,wS j,show (j:Int)-1=((j-1:Nat):Int) by omega,qaw (show -9223372036854775808≤((j-1:Nat):Int) by omega) (by omega),qbI (show j-1<xs.length by omega),qbI hj,jd]
     unfold stepB
     by_cases hc:at0 xs (j-1)<at0 xs j
     ·have e1:decide (at0 xs (j-1) ≥ at0 xs j)=false:=by simp;omega
      rw [e1];simp only [hc,decide_true,Bool.or_true,cond_true,cond_false];exact hX
     ·have e1:decide (at0 xs (j-1) ≥ at0 xs j)=true:=by simp;omega
      have e2:decide (j=0)=false:=by simp;omega
      rw [e1,e2];simp only [hc,decide_false,Bool.or_self,cond_true,cond_false];exact .done))
   have e:allN (fun j=>stepB xs (1+j)) (xs.length-1)=incB xs:=by
    unfold incB
    rw [jl,qap,qap]
    constructor
    ·intro h j hj
     cases j with
     | zero=>rfl
     | succ j=>have:=h j (by omega);rwa [Nat.add_comm] at this
    ·intro h j hj
     exact h (1+j) (by omega)
   rw [e] at this
   exact this
 unfold qcv
 refine Ev.bind hL ?_
 cases incB xs<;>exact .done
def lenB {α:Type} (xs:List α) (lo hi:Nat):Bool:=decide (lo≤xs.length)&&decide (xs.length≤hi)
theorem qnY {α:Type} {xs:List α} {lo hi:Nat}:inI (xs.length:Int) (lo:Int) (hi:Int)=lenB xs lo hi:=by
 unfold inI lenB;rw [jl];simp
def axisB (xs:List Int):Bool:=lenB xs 1 4&&((xs.all fun x=>inI x 0 100000)&&incB xs)
theorem qm3 {xs:List Int} (hl:xs.length≤1048576):Ev (fun n=>qgX n xs) (axisB xs):=by
 simp only [qgX,qaN,jd,qdt,show inI (xs.length:Int) 1 4=lenB xs 1 4 from qnY (lo:=1) (hi:=4)]
 unfold axisB
 cases lenB xs 1 4
 ·exact .done
 ·refine Ev.tt rfl (Ev.bind (qeq hl) ?_)
  cases (xs.all fun x=>inI x 0 100000)
  ·exact .done
  ·exact Ev.tt rfl (Ev.bind (qha hl) .done)
theorem ql5 {xs:List Int} (hl:xs.length≤1048576):Ev (fun n=>qgf n xs) (axisB xs):=by
 have hL:Ev (fun n=>qcF xs n 0) (bif allN (fun j=>inI (at0 xs j) 0 100000&&stepB xs j) xs.length then .nxt (xs.length:Int) else .ret false):=by
  refine qd7 ?_ (fun j hj X hX=>Ev.succ ?_)
  ·exact Ev.succ (by simp only [qcF,qk (je _),cond_false];exact .done)
  ·simp only [qcF,qj hj,cond_true,qbI hj,jd,qdF,wS j]
   cases inI (at0 xs j) 0 100000
   ·exact .done
   ·simp only [Bool.not_true,cond_false,jB]
    unfold stepB
    by_cases h0:j=0
    ·subst h0
     exact Ev.ff (by decide) hX
    ·simp only [show (j:Int)-1=((j-1:Nat):Int) by omega,qaw (show -9223372036854775808≤((j-1:Nat):Int) by omega) (by omega),qbI (show j-1<xs.length by omega),jd]
     have e2:decide (j=0)=false:=by simp;omega
     have e3:decide ((j:Int) > 0)=true:=by simp;omega
     rw [e2,e3]
     simp only [cond_true,Bool.false_or]
     by_cases hc:at0 xs (j-1)<at0 xs j
     ·have e1:decide (at0 xs (j-1) ≥ at0 xs j)=false:=by simp;omega
      rw [e1];simp only [hc,decide_true,cond_true,cond_false];exact hX
     ·have e1:decide (at0 xs (j-1) ≥ at0 xs j)=true:=by simp;omega
      rw [e1];simp only [hc,decide_false,cond_true,cond_false];exact .done
 have e:axisB xs=(allN (fun j=>inI (at0 xs j) 0 100000&&stepB xs j) xs.length&&lenB xs 1 4):=by
  unfold axisB incB
  rw [qiz,qge (d:=0),Bool.and_comm]
  rfl
 rw [e]
 unfold qgf
 refine Ev.bind hL ?_
 cases allN (fun j=>inI (at0 xs j) 0 100000&&stepB xs j) xs.length
 ·exact .done
 ·simp only [cond_true,qjw,qkz,jB]
  exact Ev.now (by congr 1;unfold lenB;rw [jl];simp;omega)
def tableB (t:qp):Bool:=axisB t.Bb&&(axisB t.Ba&&(decide (t.Au.length=t.Bb.length*t.Ba.length)&&(t.Au.all fun x=>inI x (-1000000) 1000000)))
theorem qpL {a b:Nat} (ha:a≤1048576) (hb:b≤1048576):W64 ((a:Int)*(b:Int))=((a*b:Nat):Int):=by
 have h:a*b≤1048576*1048576:=Nat.mul_le_mul ha hb
 have e:(a:Int)*(b:Int)=((a*b:Nat):Int):=by simp
 rw [e]
 exact qaw (by omega) (by omega)
theorem qpo {t:qp} (h:qgg t):Ev (fun n=>qhq n t) (tableB t):=by
 unfold qhq tableB
 refine Ev.bind (qm3 h.Bb.len) ?_
 cases axisB t.Bb
 ·exact .done
 ·refine Ev.tt rfl (Ev.bind (qm3 h.Ba.len) ?_)
  cases axisB t.Ba
  ·exact .done
  ·rw [qpL h.Bb.len h.Ba.len]
   have e:(((t.Au.length:Nat):Int)==((t.Bb.length*t.Ba.length:Nat):Int))=decide (t.Au.length=t.Bb.length*t.Ba.length):=by rw [jl];simp;omega
   rw [e]
   cases decide (t.Au.length=t.Bb.length*t.Ba.length)
   ·exact .done
   ·exact Ev.tt rfl (Ev.tt rfl (Ev.bind (qeq h.Au.len) .done))
theorem qop {t:qp} (h:qgg t):Ev (fun n=>qho n t) (tableB t):=by
 have hl:=h.Au.len
 have hL:Ev (fun n=>qdw t n 0) (bif (t.Au.all fun x=>inI x (-1000000) 1000000) then .nxt (t.Au.length:Int) else .ret false) :=
  qkw (fun n=>by simp only [qdw,qk (je _),cond_false]) (fun j hj X hX=>by
   simp only [qdw,qj hj,cond_true,qct hj,jd,qdF,wS j]
   cases inI t.Au[j] (-1000000) 1000000
   ·exact .done
   ·exact hX)
 unfold qho tableB
 refine Ev.bind (b:=!(axisB t.Bb&&(axisB t.Ba&&decide (t.Au.length=t.Bb.length*t.Ba.length)))) ?_ ?_
 ·refine Ev.bind (ql5 h.Bb.len) ?_
  cases axisB t.Bb
  ·exact .done
  ·refine Ev.ff rfl (Ev.bind (ql5 h.Ba.len) ?_)
   cases axisB t.Ba
   ·exact .done
   ·refine Ev.ff rfl (Ev.now ?_)
    rw [qpL h.Bb.len h.Ba.len]
    congr 1
    rw [jl];simp;omega
 ·cases axisB t.Bb
  ·exact .done
  ·cases axisB t.Ba
   ·exact .done
   ·cases decide (t.Au.length=t.Bb.length*t.Ba.length)
    ·exact .done
    ·refine Ev.ff rfl (Ev.bind hL ?_)
     cases (t.Au.all fun x=>inI x (-1000000) 1000000)<;>exact .done
end Go.Fw


namespace Go.Fw
open Go
set_option maxRecDepth 100000
instance:Inhabited qM:=⟨⟨ByteArray.empty,0,0,false⟩⟩
instance:Inhabited qp:=⟨⟨[],[],[]⟩⟩
instance:Inhabited qF:=⟨⟨0,0,0,0,[],[]⟩⟩
instance:Inhabited qn:=⟨⟨ByteArray.empty,0,[],[],[],0,0⟩⟩
instance:Inhabited qd:=⟨⟨ByteArray.empty,0,[]⟩⟩
instance:Inhabited qy:=⟨⟨ByteArray.empty,0,0⟩⟩
instance:Inhabited qw:=⟨⟨[],[],[],[]⟩⟩
theorem lastE {j m:Nat} (h:j<m) (hm:m≤1048576):((j:Int)==W64 ((m:Int)-1))=decide (j+1=m):=by
 rcases qr5 h with h|h
 ·exact h
 ·omega
theorem qhB {α:Type} [Inhabited α] {xs:List α} {g:α→ByteArray} {j:Nat} (h:j<xs.length):strAt (xs.map g) j=g (gt xs j):=by
 rw [qku (by simpa using h),qi1 h];simp
theorem qjI {α:Type} {xs:List α} {g:α→ByteArray} {ok:α→Prop} (h:okL ok xs) (hg:∀ x,ok x→okS (g x)):okL okS (xs.map g) :=
 ⟨by rw [jH];exact h.1,fun y hy=>by
  obtain ⟨x,hx,rfl⟩:=List.mem_map.1 hy
  exact hg x (h.2 x hx)⟩
theorem qiB {α β:Type} {xs:List α} {g:α→β} {j:Nat} (h:j<xs.length) (hl:xs.length≤1048576) {y:β}:appS ((xs.take j).map g) [y]=some ((xs.take j).map g++[y]) :=
 qcR (by simp;omega)
def pinB (ps:List qM) (j:Nat):Bool :=
 bif decide (j+1=ps.length) then ((gt ps j).Bl==2)&&(((gt ps j).Bk==0)&&!(gt ps j).Be) else ((gt ps j).Bl==1)&&inI (gt ps j).Bk 0 500
def pinsB (ps:List qM):Bool:=allN (pinB ps) ps.length&&(lenB ps 2 5&&namesB (ps.map qM.Aq))
def clkN (ps:List qM) (j:Nat):Nat:=cntP (fun i=>(gt ps i).Be) j
theorem qoY {ps:List qM} (h:okL qjl ps):Ev (fun n=>qhj n ps) (pinsB ps):=by
 have hl:=h.len
 have hL:Ev (fun n=>qb4 ps n ([]:List ByteArray) 0) (bif allN (pinB ps) ps.length then .nxt (ps.map qM.Aq,(ps.length:Int)) else .ret false):=by
  refine loopN (Lf:=qb4 ps) (S:=fun j=>(ps.take j).map qM.Aq) (pinB ps) (fun n=>?_) (fun j hj hp X hX=>?_)
  ·simp only [qb4,qk (je _),cond_false,jO]
  ·simp only [qb4,qj hj,cond_true,qX hj,jd,qiB hj hl,qfm (g:=qM.Aq) hj,lastE hj hl,bne,qbo,qdt,wS j]
   generalize hc:pinB ps j=c at hX ⊢
   unfold pinB at hc
   cases hd:decide (j+1=ps.length)
   ·rw [hd] at hc
    simp only [cond_false] at hc ⊢
    subst hc
    exact Ev.okP (fun h1=>Ev.okP1 (fun h2=>hX (by rw [h1,h2];rfl)))
   ·rw [hd] at hc
    simp only [cond_true] at hc ⊢
    subst hc
    refine Ev.okP (fun h1=>Ev.okP (fun h2=>Ev.chkP1 (fun h3=>hX (by rw [h1,h2,h3];rfl))))
 unfold qhj pinsB
 refine Ev.bind hL ?_
 cases allN (pinB ps) ps.length
 ·exact .done
 ·simp only [cond_true,qbG,qdt,jd,show inI (ps.length:Int) 2 5=lenB ps 2 5 from qnY (lo:=2) (hi:=5),jB]
  exact Ev.andP (fun _=>Ev.last (qg1 (qjI h (fun x hx=>hx.Aq))))
def pinS (ps:List qM) (j:Nat):Bool:=allN (neB (ps.map qM.Aq) j) j&&((nameB (gt ps j).Aq&&inI (gt ps j).Bk 0 500)&&(bif decide (j+1=ps.length) then ((gt ps j).Bl==2)&&(((gt ps j).Bk==0)&&!(gt ps j).Be) else ((gt ps j).Bl==1)))
theorem qrX {ps:List qM}:(lenB ps 2 5&&allN (pinS ps) ps.length)=pinsB ps:=by
 have e:namesB (ps.map qM.Aq)=allN (fun j=>nameB (gt ps j).Aq&&allN (neB (ps.map qM.Aq) j) j) ps.length:=by
  unfold namesB
  rw [jH]
  exact qfU (fun j hj=>by rw [qhB hj])
 unfold pinsB
 rw [e,←Bool.and_assoc,Bool.and_comm (allN (pinB ps) ps.length),Bool.and_assoc,←qiz]
 congr 1
 refine qfU (fun j hj=>?_)
 unfold pinS pinB
 cases hd:decide (j+1=ps.length)
 ·simp only [cond_false]
  cases allN (neB (ps.map qM.Aq) j) j<;>cases nameB (gt ps j).Aq<;>cases inI (gt ps j).Bk 0 500<;>cases ((gt ps j).Bl==1)<;>rfl
 ·simp only [cond_true]
  cases hcap:((gt ps j).Bk==0)
  ·simp
  ·have:inI (gt ps j).Bk 0 500=true:=by rw [beq_iff_eq] at hcap;rw [hcap];rfl
   rw [this]
   cases allN (neB (ps.map qM.Aq) j) j<;>cases nameB (gt ps j).Aq<;>cases ((gt ps j).Bl==2)<;>cases (gt ps j).Be<;>rfl
theorem qph {c:qn} (h:okL qjl c.Am):Ev (fun n=>qhp n c) (bif pinsB c.Am then (((clkN c.Am c.Am.length:Nat):Int),true) else (0,false)):=by
 have hl:=h.len
 have hL2:∀ j,j<c.Am.length→Ev (fun n=>qdA c (j:Int) (gt c.Am j) n 0) (bif allN (neB (c.Am.map qM.Aq) j) j then .nxt (j:Int) else .ret (0,false)):=by
  intro j hj
  refine qd7 ?_ (fun i hi X hX=>Ev.succ ?_)
  ·exact Ev.succ (by simp only [qdA,qk (je _),cond_false];exact .done)
  ·simp only [qdA,qj hi,cond_true,qX (show i<c.Am.length by omega),jd,qaz,wS i]
   unfold neB
   rw [qhB (g:=qM.Aq) (show i<c.Am.length by omega),qhB (g:=qM.Aq) hj]
   exact Ev.chkP1 (fun _=>hX)
 have hL1:Ev (fun n=>qb1 c n 0 0) (bif allN (pinS c.Am) c.Am.length then .nxt (((clkN c.Am c.Am.length:Nat):Int),(c.Am.length:Int)) else .ret (0,false)):=by
  refine loopN (Lf:=qb1 c) (S:=fun j=>((clkN c.Am j:Nat):Int)) (pinS c.Am) (fun n=>?_) (fun j hj hp X hX=>?_)
  ·simp only [qb1,qk (je _),cond_false]
  ·have hn:clkN c.Am j≤j:=qe0
   have ejl:((j:Int)==W64 ((c.Am.length:Int)-1))=decide (j+1=c.Am.length):=lastE hj hl
   have elt:decide ((j:Int)<W64 ((c.Am.length:Int)-1)) = !decide (j+1=c.Am.length):=by
    rw [qaw (by omega) (by omega),jl];simp;omega
   simp only [qb1,qj hj,cond_true,qX hj,jd,wS j,qb8 (show clkN c.Am j<9223372036854775807 by omega),ejl,elt,qdF]
   unfold pinS
   refine Ev.bind (hL2 j hj) ?_
   cases ha:allN (neB (c.Am.map qM.Aq) j) j
   ·exact .done
   ·simp only [cond_true,jB]
    refine Ev.chkT ?_ (fun h1=>?_)
    ·exact Ev.or (qj3 (qhQ h hj).Aq) (fun _=>.done)
    ·refine Ev.chkT1 ?_ (fun h2=>?_)
     ·cases decide (j+1=c.Am.length)
      ·exact .done
      ·simp only [cond_true,Bool.not_true,cond_false,bne,qbo]
       cases ((gt c.Am j).Bl==2)<;>cases ((gt c.Am j).Bk==0)<;>cases (gt c.Am j).Be<;>exact .done
     ·have hX:=hX (by unfold pinS;rw [ha,h1,h2];rfl)
      have hck:clkN c.Am (j+1)=clkN c.Am j+(bif (gt c.Am j).Be then 1 else 0):=rfl
      rw [hck] at hX
      cases hc:(gt c.Am j).Be
      ·rw [hc] at hX;exact Ev.ff rfl hX
      ·rw [hc] at hX;exact Ev.tt rfl hX
 rw [←qrX]
 unfold qhp
 refine Ev.guard ?_ (fun h1=>?_)
 ·unfold lenB
  have e1:decide ((c.Am.length:Int)<2) = !decide (2≤c.Am.length):=by rw [jl];simp;omega
  have e2:decide ((c.Am.length:Int) > 5) = !decide (c.Am.length≤5):=by rw [jl];simp;omega
  rw [e1,e2]
  cases decide (2≤c.Am.length)<;>cases decide (c.Am.length≤5)<;>exact .done
 ·refine Ev.bind hL1 ?_
  cases allN (pinS c.Am) c.Am.length<;>exact .done
def mnL (xs:List Int):Int:=(xs.drop 1).foldl (fun m y=>if y<m then y else m) (at0 xs 0)
def mxL (xs:List Int):Int:=(xs.drop 1).foldl (fun m y=>if y > m then y else m) (at0 xs 0)
theorem qme {t:qp} (h:tableB t=true):1≤t.Au.length:=by
 unfold tableB axisB lenB at h
 simp only [jg,decide_eq_true_eq] at h
 obtain ⟨⟨⟨h1,_⟩,_⟩,⟨⟨h2,_⟩,_⟩,h3,_⟩:=h
 rw [h3]
 exact Nat.mul_pos h1 h2
theorem qsk {xs:List Int} (h1:1≤xs.length) (hl:xs.length≤1048576):Ev (fun n=>qfr n xs) (mnL xs):=by
 have hL:=(qnc (Lf:=fun n t j=>qbY xs n t j) (xs:=xs) (step:=fun (m y:Int)=>if y<m then y else m) (fin:=fun t=>(t,(xs.length:Int))) 1 (at0 xs 0) (fun _ _=>True) h1 trivial (fun _ _ _ _=>trivial)
  (fun n t=>by simp only [qbY,qk (je _),cond_false])
  (fun j t hj _ X hX=>by simpa only [qbY,qj hj,cond_true,qct hj,jd,wS j] using hX)).1
 unfold qfr
 rw [show decide ((xs.length:Int)<1)=false by simp;omega,show idx xs (0:Int)=some (at0 xs 0) from qbI (j:=0) (by omega)]
 simp only [cond_false,jd]
 exact Ev.bind hL .done
theorem qpr {t:qp} (h:qgg t):Ev (fun n=>qfh n t) (bif tableB t then (⟨mnL t.Au,mxL t.Au⟩,0) else (⟨0,0⟩,1)):=by
 unfold qfh
 refine Ev.chk1 (qop h) (fun hb=>?_)
 have h1:=qme hb
 have hl:=h.Au.len
 have hL:=(qnc (Lf:=fun n (t':Int × Int) j=>qbZ t n t'.1 t'.2 j) (xs:=t.Au) (step:=fun (m:Int × Int) y=>(if y<m.1 then y else m.1,if y > m.2 then y else m.2)) (fin:=fun t'=>(t'.1,t'.2,(t.Au.length:Int))) 1 (at0 t.Au 0,at0 t.Au 0) (fun _ _=>True) h1 trivial (fun _ _ _ _=>trivial)
  (fun n t=>by simp only [qbZ,qk (je _),cond_false])
  (fun j t hj _ X hX=>by simpa only [qbZ,qj hj,cond_true,qct hj,jd,wS j] using hX)).1
 have hf:∀ (ys:List Int) (a b:Int),ys.foldl (fun (m:Int × Int) y=>(if y<m.1 then y else m.1,if y > m.2 then y else m.2)) (a,b)=(ys.foldl (fun m y=>if y<m then y else m) a,ys.foldl (fun m y=>if y > m then y else m) b):=by
  intro ys
  induction ys with
  | nil=>intro a b;rfl
  | cons y ys ih=>intro a b;simp only [List.foldl_cons,ih]
 rw [hf] at hL
 rw [show idx t.Au (0:Int)=some (at0 t.Au 0) from qbI (j:=0) (by omega)]
 simp only [jd]
 exact Ev.bind hL .done
def tabB (pos:Bool) (t:qp):Bool:=tableB t&&(!pos || decide (0≤mnL t.Au))
def tablesB (ts:List qp) (pos:Bool):Bool:=decide (ts.length=2)&&ts.all (tabB pos)
theorem qiY {ts:List qp} {pos:Bool} (h:okL qgg ts):Ev (fun n=>qea n ts pos) (tablesB ts pos):=by
 have hl:=h.len
 have h1:Ev (fun n=>qag n ts pos) (ixL (fun x=>!tabB pos x) ts) :=
  qe6 (fin:=(ts.length:Int)) (Lf:=qA ts pos) (pf:=fun n x=>qfq n x pos) (fun x hx=>by
    unfold qfq tabB
    refine Ev.or (qpo (h.2 x hx)) (fun hb=>?_)
    cases pos
    ·exact .done
    ·refine Ev.tt rfl (Ev.bind (qsk (qme hb) (h.2 x hx).Au.len) (Ev.now ?_))
     congr 1
     rw [jl];simp)
   (fun n=>by simp only [qA,qk (je _),cond_false])
   (fun n j x hx=>by
    have hj:=(List.getElem?_eq_some_iff.1 hx).1
    simp only [qA,qj hj,cond_true,qaf hx,jd,wS j])
   (fun n=>by unfold qag;congr 1;funext o;cases o<;>rfl)
 unfold qea qau tablesB
 rw [show ((ts.length:Int)==2)=decide (ts.length=2) by rw [jl];simp;omega]
 refine Ev.andP (fun _=>Ev.bind (Ev.bind h1 (Ev.now rfl)) (Ev.now ?_))
 rw [qj5,qlO]
theorem qgj {ts:List qp} {pos:Bool} (h:okL qgg ts):Ev (fun n=>qcq n ts pos) (tablesB ts pos):=by
 unfold qcq tablesB
 rw [show ((ts.length:Int) != 2) = !decide (ts.length=2) by rw [jl];simp;omega]
 simp only [qbo]
 refine Ev.andP (fun h2=>?_)
 have h2:ts.length=2:=by simpa using h2
 have hL:Ev (fun n=>qbQ ts pos n 0) (bif allN (fun j=>tabB pos (gt ts j)) ts.length then .nxt (2:Int) else .ret false):=by
  refine qd7 (len:=ts.length) ?_ (fun j hj X hX=>Ev.succ ?_)
  ·rw [h2];exact Ev.succ (by simp only [qbQ];exact .done)
  ·simp only [qbQ,show decide ((j:Int)<2)=true by simp;omega,cond_true,qX hj,jd,wS j]
   refine Ev.bind (qpr (qhQ h hj)) ?_
   unfold tabB
   cases tableB (gt ts j)
   ·exact .done
   ·simp only [cond_true,jB]
    refine Ev.ff rfl ?_
    cases pos
    ·exact hX
    ·refine Ev.tt rfl ?_
     rw [show decide (mnL (gt ts j).Au<0) = !decide (0≤mnL (gt ts j).Au) by rw [jl];simp]
     simp only [qbo]
     exact Ev.okP1 (fun _=>hX)
 rw [qhb]
 refine Ev.bind hL ?_
 cases allN (fun j=>tabB pos (gt ts j)) ts.length<;>exact .done
end Go.Fw


namespace Go.Fw
open Go
set_option maxRecDepth 100000
theorem qfR {α:Type} [Inhabited α] {xs:List α} {x:Int} (h0:0≤x) (h1:x<xs.length):idx xs x=some (gt xs x.toNat):=by
  have:=qX (xs:=xs) (j:=x.toNat) (by omega)
  rwa [←qkZ h0] at this
theorem qm5 {q:Nat→Bool} {m n:Nat} (h:m≤n):cntP q m≤cntP q n:=by
  induction n with
  | zero =>
    obtain rfl:m=0:=by omega
    exact je _
  | succ n ih =>
    rcases Nat.lt_or_eq_of_le h with h|rfl
    · exact Nat.le_trans (ih (by omega)) (Nat.le_add_right _ _)
    · exact je _
theorem qiM {m k:Nat}:decide ((m:Int)≤(k:Int))=decide (m≤k):=by rw [jl];simp
theorem qow {q:Nat→Bool} {n i j:Nat} (hi:i<j) (hj:j<n) (h1:q i=true) (h2:q j=true):2≤cntP q n:=by
  have e1:cntP q (i+1)=cntP q i+1:=by rw [cntP,h1];rfl
  have e2:cntP q (j+1)=cntP q j+1:=by rw [cntP,h2];rfl
  have m1:=qm5 (q:=q) (show i+1≤j by omega)
  have m2:=qm5 (q:=q) (show j+1≤n by omega)
  omega
theorem qrK {q:Nat→Bool} {n i j:Nat} (hn:cntP q n≤1) (hi:i<n) (hj:j<n) (h1:q i=true) (h2:q j=true):i=j:=by
  rcases Nat.lt_trichotomy i j with h|h|h
  · have:=qow h hj h1 h2;omega
  · exact h
  · have:=qow h hi h2 h1;omega
def clkIx (ps:List qM):Int:=ixL (fun p=>p.Be) ps
def clkAt (ps:List qM) (x:Int):Bool:=(gt ps x.toNat).Be
theorem qrq {c:qn} (hl:c.Am.length≤1048576):Ev (fun n=>qfK n c) (clkIx c.Am):=by
  unfold qfK
  refine Ev.bind (b:=clkIx c.Am) ?_ .done
  exact qe6 (fin:=(c.Am.length:Int)) (Lf:=qC c.Am) (pf:=fun n x=>qgk n x) (fun _ _=>.done)
    (fun n=>by simp only [qC,qk (je _),cond_false])
    (fun n j x hx=>by
      have hj:=(List.getElem?_eq_some_iff.1 hx).1
      simp only [qC,qj hj,cond_true,qaf hx,jd,wS j])
    (fun n=>by unfold qaO;congr 1;funext o;cases o<;>rfl)
def arcI (ps:List qM) (a:qF):Bool :=
  bif (a.Ap==4) || (a.Ap==5) then
    (a.Bf==0)&&(((a.Bi.length:Int)==0)&&(tablesB a.Az false&&((a.Av==clkIx ps)&&(decide (a.Av ≥ 0)&&(inI a.To 0 (ps.length-2)&&!(a.To==a.Av))))))
  else
    (tablesB a.Az true&&(tablesB a.Bi true&&((a.To==(ps.length:Int)-1)&&inI a.Av 0 (ps.length-2)))) &&
      (bif a.Ap==1 then !clkAt ps a.Av&&inI a.Bf 1 3 else (bif (a.Ap==2) || (a.Ap==3) then clkAt ps a.Av&&(a.Bf==0) else false))
def arcS (ps:List qM) (a:qF):Bool :=
  (inI a.Av 0 (ps.length-2)&&inI a.To 0 (ps.length-1)) &&
    (bif a.Ap==1 then !clkAt ps a.Av&&((a.To==(ps.length:Int)-1)&&(inI a.Bf 1 3&&(tablesB a.Az true&&tablesB a.Bi true)))
     else (bif (a.Ap==2) || (a.Ap==3) then clkAt ps a.Av&&((a.To==(ps.length:Int)-1)&&((a.Bf==0)&&(tablesB a.Az true&&tablesB a.Bi true)))
     else (bif (a.Ap==4) || (a.Ap==5) then clkAt ps a.Av&&(decide (a.To<(ps.length:Int)-1)&&(!clkAt ps a.To&&((a.Bf==0)&&(tablesB a.Az false&&((a.Bi.length:Int)==0))))) else false)))
theorem qlb {c d:Bool}:(bif c then some c else some d)=some (c || d):=by cases c<;>rfl
theorem qol {c d:Bool}:(bif c then some true else some d)=some (c || d):=by cases c<;>rfl
theorem qpl {n:Nat} {k:Int}:qhl n k=some ((k==4) || (k==5)):=by simp only [qhl,qol]
theorem qq4 {c:qn} {a:qF} (h:okL qjl c.Am) (ha:qka a) (hm:2≤c.Am.length):Ev (fun n=>qfJ n c a) (arcI c.Am a):=by
  have hl:=h.len
  have e1:W64 ((c.Am.length:Int)-1)=(c.Am.length:Int)-1:=qcr (by omega)
  have e2:W64 ((c.Am.length:Int)-1-1)=(c.Am.length:Int)-2:=by rw [qaw (by omega) (by omega)];omega
  simp only [qfJ,qpl,jd,qeZ,qdb,qbG,e1,e2,qdt,qlb,bne]
  unfold arcI
  refine Ev.iff (fun _=>Ev.last ?_) (fun _=>Ev.guardB ?_ (fun hb=>?_))
  · exact Ev.andP fun _=>Ev.andP fun _=>Ev.and (qiY ha.Az) fun _=>Ev.bind (qrq hl) (Ev.andP fun _=>Ev.andP fun _=>Ev.andP fun _=>.done)
  · refine Ev.or (qiY ha.Az) fun _=>Ev.or (qiY ha.Bi) fun _=>?_
    simp only [qbo]
    exact Ev.orBP fun _=>.done
  · have hf:0≤a.Av∧a.Av≤(c.Am.length:Int)-2:=by
      simp only [jg,qbN] at hb
      exact hb.2.2.2
    simp only [qfR hf.1 (show a.Av<(c.Am.length:Int) by omega),jd]
    exact Ev.iff (fun _=>Ev.andP fun _=>.done) (fun _=>Ev.iff (fun _=>Ev.andP fun _=>.done) (fun _=>.done))
theorem qqu {c:qn} {a:qF} (h:okL qjl c.Am) (ha:qka a) (hm:2≤c.Am.length):Ev (fun n=>qh4 n c a) (arcS c.Am a):=by
  have hl:=h.len
  have e1:W64 ((c.Am.length:Int)-1)=(c.Am.length:Int)-1:=qcr (by omega)
  have e2:W64 ((c.Am.length:Int)-1-1)=(c.Am.length:Int)-2:=by rw [qaw (by omega) (by omega)];omega
  simp only [qh4,jd,e1,e2,qdF,qlb]
  unfold arcS
  refine Ev.guardB ?_ (fun hb=>?_)
  · simp only [qbo]
    exact Ev.orBP fun _=>.done
  · have hf:(0≤a.Av∧a.Av≤(c.Am.length:Int)-2)∧(0≤a.To∧a.To≤(c.Am.length:Int)-1):=by
      simp only [jg,qbN] at hb
      exact hb
    simp only [qfR hf.1.1 (show a.Av<(c.Am.length:Int) by omega),qfR hf.2.1 (show a.To<(c.Am.length:Int) by omega),jd]
    refine Ev.iff (fun _=>?_) (fun _=>Ev.iff (fun _=>?_) (fun _=>Ev.iff (fun _=>?_) (fun _=>.done)))
    · exact Ev.andP fun _=>Ev.andP fun _=>Ev.andP fun _=>Ev.and (qgj ha.Az) fun _=>Ev.last (qgj ha.Bi)
    · exact Ev.andP fun _=>Ev.andP fun _=>Ev.andP fun _=>Ev.and (qgj ha.Az) fun _=>Ev.last (qgj ha.Bi)
    · exact Ev.andP fun _=>Ev.andP fun _=>Ev.andP fun _=>Ev.andP fun _=>Ev.and (qgj ha.Az) fun _=>.done
theorem qkL {ps:List qM} (h1:clkN ps ps.length≤1) {x:Int} (hx:0≤x):clkIx ps=x↔x<ps.length∧clkAt ps x=true:=by
  unfold clkIx ixL
  cases hf:ps.findIdx? (fun p=>p.Be) with
  | some j =>
    obtain ⟨hj,hp,_⟩:=List.findIdx?_eq_some_iff_getElem.1 hf
    have hpj:(gt ps j).Be=true:=by rw [qi1 hj];exact hp
    constructor
    · intro e
      have e:(j:Int)=x:=e
      subst e
      exact ⟨by omega,by unfold clkAt;rw [jC];exact hpj⟩
    · rintro ⟨hl,hc⟩
      have:=qrK h1 hj (show x.toNat<ps.length by omega) hpj hc
      show (j:Int)=x
      omega
  | none =>
    have hn:=List.findIdx?_eq_none_iff.1 hf
    constructor
    · intro e
      have e:(-1:Int)=x:=e
      omega
    · rintro ⟨hl,hc⟩
      have hxl:x.toNat<ps.length:=by omega
      unfold clkAt at hc
      rw [qi1 hxl] at hc
      have:=hn _ (ju hxl)
      rw [hc] at this
      exact absurd this (by decide)
theorem qhU {ps:List qM} (h:pinsB ps=true):(2≤ps.length∧ps.length≤5)∧clkAt ps ((ps.length:Int)-1)=false:=by
  unfold pinsB lenB at h
  simp only [jg,decide_eq_true_eq] at h
  refine ⟨h.2.1,?_⟩
  have h1:=qap.1 h.1 (ps.length-1) (by omega)
  unfold pinB at h1
  rw [show decide (ps.length-1+1=ps.length)=true by simp;omega] at h1
  simp only [cond_true,jg,jJ] at h1
  unfold clkAt
  rw [show ((ps.length:Int)-1).toNat=ps.length-1 by omega]
  exact h1.2.2
theorem qsQ {ps:List qM} {a:qF} (h:pinsB ps=true) (h1:clkN ps ps.length≤1):arcI ps a=arcS ps a:=by
  obtain ⟨⟨hm,hm5⟩,hlast⟩:=qhU h
  rw [jl]
  unfold arcI arcS
  cases h45:((a.Ap==4) || (a.Ap==5)) with
  | true =>
    have k1:(a.Ap==1)=false:=by simp at h45 ⊢;omega
    have k23:((a.Ap==2) || (a.Ap==3))=false:=by simp at h45 ⊢;omega
    rw [k1,k23]
    simp only [cond_true,cond_false,jg,qbN,decide_eq_true_eq,beq_iff_eq,jJ,beq_eq_false_iff_ne,ne_eq]
    constructor
    · rintro ⟨hs,hsl,hd,hf,hf0,ht,hne⟩
      obtain ⟨hl,hc⟩:=(qkL h1 hf0).1 hf.symm
      have hfl:a.Av ≠ (ps.length:Int)-1:=by intro e;rw [e,hlast] at hc;cases hc
      refine ⟨⟨⟨hf0,by omega⟩,⟨ht.1,by omega⟩⟩,hc,by omega,?_,hs,hd,hsl⟩
      cases hct:clkAt ps a.To with
      | false=>rfl
      | true =>
        have:=(qkL h1 ht.1).2 ⟨by omega,hct⟩
        omega
    · rintro ⟨⟨hf,ht⟩,hc,hlt,hct,hs,hd,hsl⟩
      have:=(qkL h1 hf.1).2 ⟨by omega,hc⟩
      refine ⟨hs,hsl,hd,this.symm,hf.1,⟨ht.1,by omega⟩,?_⟩
      intro e
      rw [e,hc] at hct
      cases hct
  | false =>
    simp only [cond_false,jg,qbN,beq_iff_eq]
    cases (a.Ap==1)
    · cases ((a.Ap==2) || (a.Ap==3))
      · simp
      · simp only [cond_true,cond_false,jg,beq_iff_eq]
        constructor
        · rintro ⟨⟨h1,h2,h3,h4⟩,h5,h6⟩
          exact ⟨⟨h4,by omega⟩,h5,h3,h6,h1,h2⟩
        · rintro ⟨⟨h4,h7⟩,h5,h3,h6,h1,h2⟩
          exact ⟨⟨h1,h2,h3,h4⟩,h5,h6⟩
    · simp only [cond_true,jg,qbN,jJ,beq_iff_eq]
      constructor
      · rintro ⟨⟨h1,h2,h3,h4⟩,h5,h6⟩
        exact ⟨⟨h4,by omega⟩,h5,h3,h6,h1,h2⟩
      · rintro ⟨⟨h4,h7⟩,h5,h3,h6,h1,h2⟩
        exact ⟨⟨h1,h2,h3,h4⟩,h5,h6⟩
theorem qqc {ps:List qM} {a:qF} (h:arcS ps a=true):1≤a.Ap∧a.Ap≤5:=by
  unfold arcS at h
  rw [jg] at h
  have h:=h.2
  cases h1:(a.Ap==1)
  · cases h2:((a.Ap==2) || (a.Ap==3))
    · cases h4:((a.Ap==4) || (a.Ap==5))
      · rw [h1,h2,h4] at h;cases h
      · simp at h4;omega
    · simp at h2;omega
  · simp at h1;omega
def sameArc (x y:qF):Bool:=(x.Ap==y.Ap)&&((x.Av==y.Av)&&(x.To==y.To))
def newArc (ar:List qF) (j:Nat):Bool:=allN (fun i=>!sameArc (gt ar i) (gt ar j)) j
theorem qpu {c:qn} (h:okL qjl c.Am) (ha:okL qka c.Ar) (hm:2≤c.Am.length):Ev (fun n=>qeX n c) (allN (fun j=>arcI c.Am (gt c.Ar j)&&newArc c.Ar j) c.Ar.length&&decide (c.Ar.length≤8)):=by
  have hl:=ha.len
  have h1:∀ (ar:List qF) (y:qF),ar.length≤1048576→Ev (fun n=>qV n ar y) (ar.any fun x=>sameArc x y):=by
    intro ar y hl
    unfold qV
    refine Ev.bind (b:=ixL (fun x=>sameArc x y) ar) (qe6 (fin:=(ar.length:Int)) (Lf:=qz ar y) (pf:=fun n x=>qdZ n x y) (fun x _=>?_)
      (fun n=>by simp only [qz,qk (je _),cond_false])
      (fun n j x hx=>by
        have hj:=(List.getElem?_eq_some_iff.1 hx).1
        simp only [qz,qj hj,cond_true,qaf hx,jd,wS j])
      (fun n=>by unfold qaE;congr 1;funext o;cases o<;>rfl)) (Ev.now (by rw [qj5]))
    unfold qdZ sameArc
    exact Ev.andP fun _=>Ev.andP fun _=>.done
  have hL:Ev (fun n=>qbC c n 0) (bif allN (fun j=>arcI c.Am (gt c.Ar j)&&newArc c.Ar j) c.Ar.length then .nxt (c.Ar.length:Int) else .ret false):=by
    refine qd7 ?_ (fun j hj X hX=>Ev.succ ?_)
    · exact Ev.succ (by simp only [qbC,qk (je _),cond_false];exact .done)
    · simp only [qbC,qj hj,cond_true,qX hj,jd,qpW (Nat.le_of_lt hj),wS j]
      refine Ev.chk (qq4 h (qhQ ha hj) hm) fun _=>Ev.chkT1 ?_ (fun _=>hX)
      refine (h1 _ _ (by simp;omega)).cast ?_
      rw [qq3 (Nat.le_of_lt hj)];rfl
  unfold qeX
  refine Ev.bind hL ?_
  cases allN (fun j=>arcI c.Am (gt c.Ar j)&&newArc c.Ar j) c.Ar.length
  · exact .done
  · refine Ev.now ?_
    show some (decide ((c.Ar.length:Int)≤((8:Nat):Int)))=some (true&&decide (c.Ar.length≤8))
    rw [qiM,jB]
def hasB (ar:List qF) (k:Int):Bool:=ar.any fun a=>a.Ap==k
theorem qkO {c:qn} {k:Int} (hl:c.Ar.length≤1048576):Ev (fun n=>qco n c k) (hasB c.Ar k):=by
  unfold qco qaK
  exact Ev.last (Ev.bind (b:=ixL (fun x=>x.Ap==k) c.Ar) (qe6 (fin:=(c.Ar.length:Int)) (Lf:=qH c.Ar k) (pf:=fun n x=>qg9 n x k) (fun x _=>.done)
      (fun n=>by simp only [qH,qk (je _),cond_false])
      (fun n j x hx=>by
        have hj:=(List.getElem?_eq_some_iff.1 hx).1
        simp only [qH,qj hj,cond_true,qaf hx,jd,wS j])
      (fun n=>by unfold qaZ;congr 1;funext o;cases o<;>rfl)) (Ev.now (by rw [qj5];rfl)))
def kindN (ar:List qF) (k:Nat) (j:Nat):Nat:=cntP (fun i=>(gt ar i).Ap==(k:Int)) j
theorem qnd {ar:List qF} {k:Nat}:decide (((kindN ar k ar.length:Nat):Int) > 0)=hasB ar k:=by
  rw [show decide (((kindN ar k ar.length:Nat):Int) > 0)=decide (0<kindN ar k ar.length) by simp]
  unfold kindN hasB
  rw [qrG,qqZ]
theorem qo5 {ar:List qF} {k:Nat}:(((kindN ar k ar.length:Nat):Int)==0) = !hasB ar k:=by
  rw [←qnd,jl];simp
theorem qoq {c:qn} (ha:okL qka c.Ar) (hk:∀ j,j<c.Ar.length→1≤(gt c.Ar j).Ap∧(gt c.Ar j).Ap≤5):Ev (fun n=>qgN n c) (vecC (fun k=>kindN c.Ar k c.Ar.length) 6):=by
  have hl:=ha.len
  have hL:Ev (fun n=>qce c n (vecC (fun _=>0) 6) 0) (vecC (fun k=>kindN c.Ar k c.Ar.length) 6,(c.Ar.length:Int)):=by
    refine loopF (Lf:=qce c) (S:=fun j=>vecC (fun k=>kindN c.Ar k j) 6) (len:=c.Ar.length) (fun n=>?_) (fun j hj X hX=>?_)
    · simp only [qce,qk (je _),cond_false]
    · obtain ⟨k1,k5⟩:=hk j hj
      have ek:(gt c.Ar j).Ap=(((gt c.Ar j).Ap.toNat:Nat):Int):=qkZ (by omega)
      have hc:kindN c.Ar (gt c.Ar j).Ap.toNat j≤j:=qe0
      simp only [qce,qj hj,cond_true,qX hj,jd,wS j]
      rw [ek,qhX (show (gt c.Ar j).Ap.toNat<6 by omega)]
      simp only [jd]
      rw [qnf (c:=fun k=>kindN c.Ar k j) (by show kindN c.Ar _ j<_;omega)]
      have:vecC (fun i=>kindN c.Ar i j+(bif decide ((gt c.Ar j).Ap.toNat=i) then 1 else 0)) 6=vecC (fun k=>kindN c.Ar k (j+1)) 6:=by
        refine qhG (fun k _=>?_)
        show _=kindN c.Ar k j+(bif (gt c.Ar j).Ap==(k:Int) then 1 else 0)
        congr 2
        rw [jl];simp;omega
      rw [this]
      exact hX
  unfold qgN
  rw [show mkS 6 (0:Int)=some (vecC (fun _=>0) 6) from qjG (m:=6) (by omega)]
  simp only [jd]
  exact Ev.bind hL .done
def kindB (c:qn):Bool :=
  bif c.Ap==1 then (((clkN c.Am c.Am.length:Nat):Int)==0)&&(((c.Ay.length:Int)==((2 ^ (c.Am.length-1):Nat):Int))&&(c.Ay.all fun x=>inI x 0 1))
  else bif c.Ap==2 then (((clkN c.Am c.Am.length:Nat):Int)==1)&&(((c.Ay.length:Int)==0)&&(!hasB c.Ar 1&&!(hasB c.Ar 2==hasB c.Ar 3)))
  else bif c.Ap==3 then (((clkN c.Am c.Am.length:Nat):Int)==1)&&(((c.Ay.length:Int)==0)&&(hasB c.Ar 1&&(hasB c.Ar 2&&!hasB c.Ar 3)))
  else false
theorem qqr {c:qn} (h:kindB c=true):clkN c.Am c.Am.length≤1:=by
  unfold kindB at h
  cases h1:(c.Ap==1)
  · cases h2:(c.Ap==2)
    · cases h3:(c.Ap==3)
      · rw [h1,h2,h3] at h;cases h
      · rw [h1,h2,h3] at h
        simp only [cond_true,cond_false,jg,beq_iff_eq] at h
        omega
    · rw [h1,h2] at h
      simp only [cond_true,cond_false,jg,beq_iff_eq] at h
      omega
  · rw [h1] at h
    simp only [cond_true,jg,beq_iff_eq] at h
    omega
theorem qoo {m:Nat} (h1:2≤m) (h2:m≤5):shlS 1 (W64 ((m:Int)-1))=some ((2 ^ (m-1):Nat):Int)∧shlS 1 (IntKind.wrap .u64 (W64 ((m:Int)-1)))=some ((2 ^ (m-1):Nat):Int):=by
  have:m=2∨m=3∨m=4∨m=5:=by omega
  rcases this with rfl|rfl|rfl|rfl<;>exact ⟨by decide,by decide⟩
theorem qoN {c:qn} (hc:qjE c) (hm:2≤c.Am.length) (hm5:c.Am.length≤5):Ev (fun n=>qeA n c) (kindB c):=by
  have hl:=hc.Am.len
  have hL:Ev (fun n=>qaF c n 0 0) (((clkN c.Am c.Am.length:Nat):Int),(c.Am.length:Int)):=by
    refine loopF (Lf:=qaF c) (S:=fun j=>((clkN c.Am j:Nat):Int)) (len:=c.Am.length) (fun n=>?_) (fun j hj X hX=>?_)
    · simp only [qaF,qk (je _),cond_false]
    · have hn:clkN c.Am j≤j:=qe0
      simp only [qaF,qj hj,cond_true,qX hj,jd,wS j,qb8 (show clkN c.Am j<9223372036854775807 by omega)]
      have hck:clkN c.Am (j+1)=clkN c.Am j+(bif (gt c.Am j).Be then 1 else 0):=rfl
      rw [hck] at hX
      cases hc:(gt c.Am j).Be
      · rw [hc] at hX;exact Ev.ff rfl hX
      · rw [hc] at hX;exact Ev.tt rfl hX
  unfold qeA kindB
  refine Ev.bind hL ?_
  simp only [qdb,qbG,jd,(qoo hm hm5).1]
  have hal:=hc.Ar.len
  refine Ev.iff (fun _=>?_) (fun _=>Ev.iff (fun _=>?_) (fun _=>Ev.iff (fun _=>?_) (fun _=>.done)))
  · exact Ev.andP fun _=>Ev.andP fun _=>Ev.last (qeq hc.Ay.len)
  · exact Ev.andP fun _=>Ev.andP fun _=>Ev.bind (qkO hal) (Ev.andP fun _=>Ev.bind (qkO hal) (Ev.bind (qkO hal) .done))
  · exact Ev.andP fun _=>Ev.andP fun _=>Ev.and (qkO hal) fun _=>Ev.and (qkO hal) fun _=>Ev.bind (qkO hal) .done
def cellB (c:qn):Bool :=
  nameB c.Aq&&(pinsB c.Am&&((allN (fun j=>arcI c.Am (gt c.Ar j)&&newArc c.Ar j) c.Ar.length&&decide (c.Ar.length≤8))&&(inI c.Bo 0 100000&&(inI c.Bj 0 100000&&kindB c))))
theorem qqg {c:qn} (hc:qjE c):Ev (fun n=>qif n c) (cellB c):=by
  simp only [qif,qnr hc.Aq,qdt,jd]
  unfold cellB
  refine Ev.andP fun _=>Ev.and (qoY hc.Am) fun hp=>?_
  obtain ⟨⟨hm,hm5⟩,_⟩:=qhU hp
  exact Ev.and (qpu hc.Am hc.Ar hm) fun _=>Ev.andP fun _=>Ev.andP fun _=>Ev.last (qoN hc hm hm5)
theorem qpm {c:qn} (hc:qjE c):Ev (fun n=>qid n c) (cellB c):=by
  have hal:=hc.Ar.len
  have htl:=hc.Ay.len
  have e:cellB c=((pinsB c.Am&&(nameB c.Aq&&(decide (c.Ar.length≤8)&&(inI c.Bo 0 100000&&inI c.Bj 0 100000))))&&(allN (fun j=>arcS c.Am (gt c.Ar j)&&newArc c.Ar j) c.Ar.length&&kindB c)):=by
    unfold cellB
    cases hk:kindB c
    · simp
    · cases hp:pinsB c.Am
      · simp
      · rw [qfU (fun j _=>by rw [qsQ hp (qqr hk)])]
        cases nameB c.Aq<;>cases allN (fun j=>arcS c.Am (gt c.Ar j)&&newArc c.Ar j) c.Ar.length<;>cases decide (c.Ar.length≤8)<;>cases inI c.Bo 0 100000<;>cases inI c.Bj 0 100000<;>rfl
  rw [e]
  unfold qid
  refine Ev.bind (qph hc.Am) ?_
  cases hp:pinsB c.Am
  · exact .done
  · obtain ⟨⟨hm,hm5⟩,_⟩:=qhU hp
    simp only [cond_true,jB,Bool.not_true,cond_false]
    refine Ev.guardB ?_ (fun _=>?_)
    · simp only [qdF,jd,qbo]
      refine Ev.orB (qj3 hc.Aq) fun _=>?_
      rw [show decide ((c.Ar.length:Int) > 8) = !decide (c.Ar.length≤8) by rw [jl];simp;omega,qbo]
      exact Ev.orBP fun _=>Ev.orBP fun _=>.done
    · have hL2:∀ j,j<c.Ar.length→Ev (fun n=>qcp c (j:Int) (gt c.Ar j) n 0) (bif newArc c.Ar j then .nxt (j:Int) else .ret false):=by
        intro j hj
        refine qd7 ?_ (fun i hi X hX=>Ev.succ ?_)
        · exact Ev.succ (by simp only [qcp,qk (je _),cond_false];exact .done)
        · simp only [qcp,qj hi,cond_true,qX (show i<c.Ar.length by omega),jd,wS i]
          unfold sameArc
          cases ((gt c.Ar i).Ap==(gt c.Ar j).Ap)
          · exact hX
          · cases ((gt c.Ar i).Av==(gt c.Ar j).Av)
            · exact hX
            · cases ((gt c.Ar i).To==(gt c.Ar j).To)
              · exact hX
              · exact .done
      have hL1:Ev (fun n=>qei c n 0) (bif allN (fun j=>arcS c.Am (gt c.Ar j)&&newArc c.Ar j) c.Ar.length then .nxt (c.Ar.length:Int) else .ret false):=by
        refine qd7 ?_ (fun j hj X hX=>Ev.succ ?_)
        · exact Ev.succ (by simp only [qei,qk (je _),cond_false];exact .done)
        · simp only [qei,qj hj,cond_true,qX hj,jd,wS j]
          refine Ev.chk (qqu hc.Am (qhQ hc.Ar hj) hm) fun _=>Ev.bind (hL2 j hj) ?_
          cases newArc c.Ar j
          · exact .done
          · exact hX
      have hL3:Ev (fun n=>qd5 c n 0) (bif (c.Ay.all fun x=>inI x 0 1) then .nxt (c.Ay.length:Int) else .ret false) :=
        qkw (fun n=>by simp only [qd5,qk (je _),cond_false]) (fun j hj X hX=>by
          simp only [qd5,qj hj,cond_true,qct hj,jd,qdF,wS j,qbo]
          exact Ev.okP1 fun _=>hX)
      refine Ev.bind hL1 ?_
      cases hA:allN (fun j=>arcS c.Am (gt c.Ar j)&&newArc c.Ar j) c.Ar.length
      · exact .done
      · have hk:∀ j,j<c.Ar.length→1≤(gt c.Ar j).Ap∧(gt c.Ar j).Ap≤5:=fun j hj=>by
          have:=qap.1 hA j hj
          rw [jg] at this
          exact qqc this.1
        simp only [cond_true,jB]
        refine Ev.bind (qoq hc.Ar hk) ?_
        simp only [(qoo hm hm5).2,jd,
          show idx (vecC (fun k=>kindN c.Ar k c.Ar.length) 6) (1:Int)=some ((kindN c.Ar 1 c.Ar.length:Nat):Int) from qhX (k:=1) (by omega),
          show idx (vecC (fun k=>kindN c.Ar k c.Ar.length) 6) (2:Int)=some ((kindN c.Ar 2 c.Ar.length:Nat):Int) from qhX (k:=2) (by omega),
          show idx (vecC (fun k=>kindN c.Ar k c.Ar.length) 6) (3:Int)=some ((kindN c.Ar 3 c.Ar.length:Nat):Int) from qhX (k:=3) (by omega),qnd,qo5]
        unfold kindB
        refine Ev.iff (fun _=>?_) (fun _=>Ev.iff (fun _=>?_) (fun _=>Ev.iff (fun _=>?_) (fun _=>.done)))
        · refine Ev.bind hL3 ?_
          cases (c.Ay.all fun x=>inI x 0 1)
          · exact Ev.now (by simp)
          · exact (Ev.andP (fun _=>.done)).cast (by rw [Bool.and_true])
        · refine (Ev.andP fun _=>Ev.andP fun _=>Ev.andP fun _=>.done).cast ?_
          cases (((clkN c.Am c.Am.length:Nat):Int)==1)<;>cases ((c.Ay.length:Int)==0)<;>cases hasB c.Ar ((1:Nat):Int)<;>cases hasB c.Ar ((2:Nat):Int)<;>cases hasB c.Ar ((3:Nat):Int)<;>rfl
        · refine (Ev.andP fun _=>Ev.andP fun _=>Ev.andP fun _=>Ev.andP fun _=>.done).cast ?_
          cases (((clkN c.Am c.Am.length:Nat):Int)==1)<;>cases ((c.Ay.length:Int)==0)<;>cases hasB c.Ar ((1:Nat):Int)<;>cases hasB c.Ar ((2:Nat):Int)<;>cases hasB c.Ar ((3:Nat):Int)<;>rfl
def libB (l:qh):Bool:=l.Ai.all cellB&&(decide (l.Ai.length≤8)&&namesB (l.Ai.map qn.Aq))
theorem qnH {l:qh} (h:qfO l):Ev (fun n=>qgn n l) (libB l):=by
  have hl:=h.Ai.len
  have hL:Ev (fun n=>qbV l n ([]:List ByteArray) 0) (bif allN (fun j=>cellB (gt l.Ai j)) l.Ai.length then .nxt (l.Ai.map qn.Aq,(l.Ai.length:Int)) else .ret false):=by
    refine loopN (Lf:=qbV l) (S:=fun j=>(l.Ai.take j).map qn.Aq) (fun j=>cellB (gt l.Ai j)) (fun n=>?_) (fun j hj hp X hX=>?_)
    · simp only [qbV,qk (je _),cond_false,jO]
    · simp only [qbV,qj hj,cond_true,qX hj,jd,qiB hj hl,qfm (g:=qn.Aq) hj,wS j]
      exact Ev.chk1 (qqg (qhQ h.Ai hj)) hX
  unfold qgn libB
  rw [qhb]
  refine Ev.bind hL ?_
  cases allN (fun j=>cellB (gt l.Ai j)) l.Ai.length
  · exact .done
  · simp only [cond_true,jB,show decide ((l.Ai.length:Int)≤8)=decide (l.Ai.length≤8) from qiM (k:=8)]
    exact Ev.andP fun _=>Ev.last (qg1 (qjI h.Ai (fun x hx=>hx.Aq)))
end Go.Fw


namespace Go.Fw
open Go
set_option maxRecDepth 100000
theorem qpj {c:qn} (h:cellB c=true):nameB c.Aq=true:=by
 unfold cellB at h;rw [jg] at h;exact h.1
theorem qlS {c:qn} (h:cellB c=true):pinsB c.Am=true:=by
 unfold cellB at h;simp only [jg] at h;exact h.2.1
theorem qmW {l:qh} (h:qfO l):Ev (fun n=>qgh n l) (libB l):=by
 have hl:=h.Ai.len
 have hL2:∀ j,j<l.Ai.length→Ev (fun n=>qcD l (j:Int) n 0) (bif allN (neB (l.Ai.map qn.Aq) j) j then .nxt (j:Int) else .ret false):=by
  intro j hj
  refine qd7 ?_ (fun i hi X hX=>Ev.succ ?_)
  ·exact Ev.succ (by simp only [qcD,qk (je _),cond_false];exact .done)
  ·simp only [qcD,qj hi,cond_true,qX (show i<l.Ai.length by omega),qX hj,jd,qaz,wS i]
   unfold neB
   rw [qhB (g:=qn.Aq) (show i<l.Ai.length by omega),qhB (g:=qn.Aq) hj]
   exact Ev.chkP1 (fun _=>hX)
 have hL1:Ev (fun n=>qcw l n 0) (bif allN (fun j=>cellB (gt l.Ai j)&&allN (neB (l.Ai.map qn.Aq) j) j) l.Ai.length then .nxt (l.Ai.length:Int) else .ret false):=by
  refine qd7 ?_ (fun j hj X hX=>Ev.succ ?_)
  ·exact Ev.succ (by simp only [qcw,qk (je _),cond_false];exact .done)
  ·simp only [qcw,qj hj,cond_true,qX hj,jd,wS j]
   refine Ev.chk (qpm (qhQ h.Ai hj)) fun _=>Ev.bind (hL2 j hj) ?_
   cases allN (neB (l.Ai.map qn.Aq) j) j
   ·exact .done
   ·exact hX
 have e:libB l=(allN (fun j=>cellB (gt l.Ai j)&&allN (neB (l.Ai.map qn.Aq) j) j) l.Ai.length&&decide (l.Ai.length≤8)):=by
  unfold libB namesB
  rw [qhb,jH,Bool.and_comm (decide (l.Ai.length≤8)),←Bool.and_assoc,←qiz]
  congr 1
  refine qfU (fun j hj=>?_)
  rw [qhB (g:=qn.Aq) hj]
  cases hc:cellB (gt l.Ai j)
  ·rfl
  ·rw [qpj hc];rfl
 rw [e]
 unfold qgh
 refine Ev.bind hL1 ?_
 cases allN (fun j=>cellB (gt l.Ai j)&&allN (neB (l.Ai.map qn.Aq) j) j) l.Ai.length
 ·exact .done
 ·refine Ev.now ?_
  show some (decide ((l.Ai.length:Int)≤((8:Nat):Int)))=some (true&&decide (l.Ai.length≤8))
  rw [qiM,jB]
theorem qiv {c c':Nat→Nat} {m:Nat} {x:Int} (h0:0≤x) (h1:x<m) (hc:c x.toNat<9223372036854775807) (he:∀ k,k<m→c' k=c k+(bif x==(k:Int) then 1 else 0)) :
  idx (vecC c m) x=some (c x.toNat:Int)∧setS (vecC c m) x (W64 ((c x.toNat:Int)+1))=vecC c' m:=by
 have ex:x=(x.toNat:Int):=qkZ h0
 have e1:=qhX (c:=c) (m:=m) (k:=x.toNat) (by omega)
 have e2:=qnf (c:=c) (m:=m) (k:=x.toNat) hc
 rw [←ex] at e1 e2
 refine ⟨e1,e2.trans (qhG (fun k hk=>?_))⟩
 rw [he k hk]
 congr 2
 rw [jl];simp;omega
def netB (d:qc) (x:Int):Bool:=inI x 0 ((d.Af.length:Int)-1)
theorem qox {n:Nat} {d:qc} {x:Int} (hl:d.Af.length≤1048576):qcy n d x=some (netB d x):=by
 simp only [qcy,qfT,jd,qdt,qcr (show d.Af.length≤9223372036854775807 by omega)];rfl
theorem qne {n:Nat} {d:qc} {x:Int} (hl:d.Af.length≤1048576):qY n x 0 (W64 ((d.Af.length:Int)-1))=some (netB d x):=by
 rw [qdF,qcr (show d.Af.length≤9223372036854775807 by omega)];rfl
def hasNamesB (d:qc):Bool:=(decide (d.Aa.length≤14)&&(decide (d.Af.length≤30)&&decide (d.Ac.length≤8)))&&(namesB (d.Aa.map qd.Aq)&&(namesB d.Af&&namesB (d.Ac.map qy.Aq)))
theorem qor {d:qc} (h:qhC d):Ev (fun n=>qdL n d) (hasNamesB d):=by
 have hli:=h.Aa.len
 have hlp:=h.Ac.len
 have hL1:Ev (fun n=>qaH d n ([]:List ByteArray) 0) (d.Aa.map qd.Aq,(d.Aa.length:Int)):=by
  refine loopF (Lf:=qaH d) (S:=fun j=>(d.Aa.take j).map qd.Aq) (len:=d.Aa.length) (fun n=>?_) (fun j hj X hX=>?_)
  ·simp only [qaH,qk (je _),cond_false,jO]
  ·simpa only [qaH,qj hj,cond_true,qX hj,jd,qiB hj hli,qfm (g:=qd.Aq) hj,wS j] using hX
 have hL2:Ev (fun n=>qaL d n ([]:List ByteArray) 0) (d.Ac.map qy.Aq,(d.Ac.length:Int)):=by
  refine loopF (Lf:=qaL d) (S:=fun j=>(d.Ac.take j).map qy.Aq) (len:=d.Ac.length) (fun n=>?_) (fun j hj X hX=>?_)
  ·simp only [qaL,qk (je _),cond_false,jO]
  ·simpa only [qaL,qj hj,cond_true,qX hj,jd,qiB hj hlp,qfm (g:=qy.Aq) hj,wS j] using hX
 unfold qdL hasNamesB
 refine Ev.bind hL1 (Ev.bind hL2 ?_)
 simp only [jH]
 rw [show decide ((d.Aa.length:Int)≤14)=decide (d.Aa.length≤14) from qiM (k:=14),show decide ((d.Af.length:Int)≤30)=decide (d.Af.length≤30) from qiM (k:=30),show decide ((d.Ac.length:Int)≤8)=decide (d.Ac.length≤8) from qiM (k:=8)]
 rw [Bool.and_assoc,Bool.and_assoc]
 exact Ev.andP fun _=>Ev.andP fun _=>Ev.andP fun _=>Ev.and (qg1 (qjI h.Aa (fun x hx=>hx.Aq))) fun _=>Ev.and (qg1 h.Af) fun _=>Ev.last (qg1 (qjI h.Ac (fun x hx=>hx.Aq)))
def instB (l:qh) (d:qc) (x:qd):Bool:=inI x.Bg 0 ((l.Ai.length:Int)-1)&&(((x.Af.length:Int)==((gt l.Ai x.Bg.toNat).Am.length:Int))&&x.Af.all (netB d))
theorem qmU {d:qc} {l:qh} {x:qd} (hn:d.Af.length≤1048576) (hc:l.Ai.length≤1048576) (hx:x.Af.length≤1048576):Ev (fun n=>qcQ n d l x) (instB l d x):=by
 simp only [qcQ,qeS,jd,qdt,qcr (show l.Ai.length≤9223372036854775807 by omega)]
 unfold instB
 refine Ev.andP fun hI=>?_
 rw [qbN] at hI
 rw [qfR hI.1 (by omega)]
 simp only [jd]
 refine Ev.andP fun _=>Ev.bind (b:=x.Af.any fun y=>!netB d y) ?_ (Ev.now (by rw [qlO]))
 unfold qaq
 exact Ev.bind (b:=ixL (fun y=>!netB d y) x.Af) (qe6 (fin:=(x.Af.length:Int)) (Lf:=qx x.Af d) (pf:=fun n y=>qcn n y d) (fun y _=>⟨0,fun n _=>by simp only [qcn,qox hn,jd]⟩)
   (fun n=>by simp only [qx,qk (je _),cond_false])
   (fun n j y hx=>by
    have hj:=(List.getElem?_eq_some_iff.1 hx).1
    simp only [qx,qj hj,cond_true,qaf hx,jd,wS j])
   (fun n=>by unfold qav;congr 1;funext o;cases o<;>rfl)) (Ev.now (by rw [qj5]))
def portB (d:qc) (p:qy):Bool:=inI p.Bl 1 2&&netB d p.Bn
theorem qsD {x:Int}:inI x 1 2=((x==1) || (x==2)):=by
 unfold inI;rw [jl];simp;omega
def lastN (x:qd):Int:=at0 x.Af (x.Af.length-1)
theorem qom {x:qd} (h1:1≤x.Af.length) (h2:x.Af.length≤1048576):idx x.Af (W64 ((x.Af.length:Int)-1))=some (lastN x):=by
 rw [qcr (by omega),show ((x.Af.length:Int)-1)=((x.Af.length-1:Nat):Int) by omega,qbI (by omega)];rfl
theorem qqs {d:qc} {x:qd} (h1:1≤x.Af.length) (h:x.Af.all (netB d)=true):0≤lastN x∧lastN x<d.Af.length:=by
 rw [qge (d:=0),qap] at h
 have:=h (x.Af.length-1) (by omega)
 unfold netB at this
 rw [qbN] at this
 unfold lastN at0
 omega
theorem ql6 {l:qh} {d:qc} {x:qd} (hl:libB l=true) (h:instB l d x=true):1≤x.Af.length∧0≤lastN x∧lastN x<d.Af.length:=by
 unfold instB at h
 simp only [jg,qbN,beq_iff_eq] at h
 obtain ⟨h1,h2,h3⟩:=h
 unfold libB at hl
 simp only [jg] at hl
 have hc:=hl.1
 rw [qhb,qap] at hc
 have:=qhU (qlS (hc x.Bg.toNat (by omega)))
 have h4:1≤x.Af.length:=by omega
 exact ⟨h4,qqs h4 h3⟩
def drvI (d:qc) (k j:Nat):Nat:=cntP (fun i=>lastN (gt d.Aa i)==(k:Int)) j
def drvP (d:qc) (k j:Nat):Nat:=cntP (fun i=>((gt d.Ac i).Bl==1)&&((gt d.Ac i).Bn==(k:Int))) j
def drvB (d:qc):Bool:=allN (fun k=>((drvI d k d.Aa.length+drvP d k d.Ac.length:Nat):Int)==1) d.Af.length
def designB (l:qh) (d:qc):Bool:=(libB l&&hasNamesB d)&&(d.Aa.all (instB l d)&&(d.Ac.all (portB d)&&drvB d))
theorem qna {d:qc} {k j:Nat}:drvI d k (j+1)=drvI d k j+(bif lastN (gt d.Aa j)==(k:Int) then 1 else 0):=rfl
theorem qjD {d:qc} {k j:Nat}:drvP d k (j+1)=drvP d k j+(bif ((gt d.Ac j).Bl==1)&&((gt d.Ac j).Bn==(k:Int)) then 1 else 0):=rfl
theorem qof {l:qh} {d:qc} (h:qfO l) (hd:qhC d):Ev (fun n=>qgI n l d) (designB l d):=by
 have hli:=hd.Aa.len
 have hlp:=hd.Ac.len
 have hln:=hd.Af.len
 have hlc:=h.Ai.len
 unfold qgI designB
 refine Ev.guardB (Ev.or (qnH h) fun _=>Ev.neg (qor hd)) fun hb=>?_
 rw [jg] at hb
 rw [qjG (m:=d.Af.length) (by omega)]
 simp only [jd]
 have hL1:Ev (fun n=>qcb l d n (vecC (fun _=>0) d.Af.length) 0) (bif allN (fun j=>instB l d (gt d.Aa j)) d.Aa.length then .nxt (vecC (fun k=>drvI d k d.Aa.length) d.Af.length,(d.Aa.length:Int)) else .ret false):=by
  refine loopN (Lf:=qcb l d) (S:=fun j=>vecC (fun k=>drvI d k j) d.Af.length) (fun j=>instB l d (gt d.Aa j)) (fun n=>?_) (fun j hj hp X hX=>?_)
  ·simp only [qcb,qk (je _),cond_false]
  ·simp only [qcb,qj hj,cond_true,qX hj,jd,wS j]
   have hxl:=(qhQ hd.Aa hj).Af.len
   refine Ev.chk1 (qmU hln hlc hxl) fun hi=>?_
   obtain ⟨h1,h2,h3⟩:=ql6 hb.1 hi
   have hc:drvI d (lastN (gt d.Aa j)).toNat j≤j:=qe0
   obtain ⟨e1,e2⟩:=qiv (c:=fun k=>drvI d k j) (c':=fun k=>drvI d k (j+1)) h2 h3 (by show drvI _ _ _<_;omega) (fun k _=>qna)
   simp only [qom h1 hxl,jd,e1,e2]
   exact hX hi
 have hL2:Ev (fun n=>qbF d n (vecC (fun k=>drvI d k d.Aa.length) d.Af.length) 0) (bif allN (fun j=>portB d (gt d.Ac j)) d.Ac.length then .nxt (vecC (fun k=>drvI d k d.Aa.length+drvP d k d.Ac.length) d.Af.length,(d.Ac.length:Int)) else .ret false):=by
  refine loopN (Lf:=qbF d) (S:=fun j=>vecC (fun k=>drvI d k d.Aa.length+drvP d k j) d.Af.length) (fun j=>portB d (gt d.Ac j)) (fun n=>?_) (fun j hj hp X hX=>?_)
  ·simp only [qbF,qk (je _),cond_false]
  ·simp only [qbF,qj hj,cond_true,qX hj,jd,qox hln,bne,wS j]
   refine Ev.chkT1 ?_ fun hi=>?_
   ·unfold portB
    rw [qsD]
    cases ((gt d.Ac j).Bl==1)<;>cases ((gt d.Ac j).Bl==2)<;>exact .done
   ·have hX:=hX hi
    unfold portB netB at hi
    simp only [jg,qbN] at hi
    have hc1:drvI d (gt d.Ac j).Bn.toNat d.Aa.length≤d.Aa.length:=qe0
    have hc2:drvP d (gt d.Ac j).Bn.toNat j≤j:=qe0
    cases h1:((gt d.Ac j).Bl==1)
    ·have:vecC (fun k=>drvI d k d.Aa.length+drvP d k (j+1)) d.Af.length=vecC (fun k=>drvI d k d.Aa.length+drvP d k j) d.Af.length:=by
      refine qhG (fun k _=>?_)
      rw [qjD,h1];rfl
     rw [this] at hX
     exact hX
    ·obtain ⟨e1,e2⟩:=qiv (c:=fun k=>drvI d k d.Aa.length+drvP d k j) (c':=fun k=>drvI d k d.Aa.length+drvP d k (j+1)) (x:=(gt d.Ac j).Bn) (m:=d.Af.length) hi.2.1 (by omega) (by show drvI _ _ _+drvP _ _ _<_;omega) (fun k _=>by rw [qjD,h1,jB];omega)
     simp only [cond_true,jd,e1,e2]
     exact hX
 rw [qhb,qhb]
 refine Ev.bind hL1 ?_
 cases allN (fun j=>instB l d (gt d.Aa j)) d.Aa.length
 ·exact .done
 ·refine Ev.bind hL2 ?_
  cases allN (fun j=>portB d (gt d.Ac j)) d.Ac.length
  ·exact .done
  ·simp only [cond_true,jB]
   unfold qa7
   refine Ev.bind (b:=(vecC (fun k=>drvI d k d.Aa.length+drvP d k d.Ac.length) d.Af.length).any fun x=>!(x==1)) (Ev.bind (b:=ixL (fun x=>!(x==1)) (vecC (fun k=>drvI d k d.Aa.length+drvP d k d.Ac.length) d.Af.length)) (qe6 (fin:=(((vecC (fun k=>drvI d k d.Aa.length+drvP d k d.Ac.length) d.Af.length).length:Nat):Int)) (Lf:=qO (vecC (fun k=>drvI d k d.Aa.length+drvP d k d.Ac.length) d.Af.length)) (pf:=fun n y=>qg8 n y) (fun y _=>.done)
    (fun n=>by simp only [qO,qk (je _),cond_false])
    (fun n j y hx=>by
     have hj:=(List.getElem?_eq_some_iff.1 hx).1
     have:j<d.Af.length:=by rw [qjb] at hj;exact hj
     simp only [qO,qj hj,cond_true,qaf hx,jd,wS j])
    (fun n=>by unfold qbp;congr 1;funext o;cases o<;>rfl)) (Ev.now (by rw [qj5]))) (Ev.now ?_)
   rw [qlO,qge (d:=0),qjb]
   unfold drvB
   congr 1
   exact qfU (fun k hk=>by
    have:=qoM (c:=fun k=>drvI d k d.Aa.length+drvP d k d.Ac.length) hk
    unfold at0 at this
    rw [this])
theorem qoR {l:qh} {d:qc} (h:qfO l) (hd:qhC d):Ev (fun n=>qgF n l d) (d.Aa.all (instB l d)&&d.Ac.all (portB d)):=by
 have hli:=hd.Aa.len
 have hlp:=hd.Ac.len
 have hln:=hd.Af.len
 have hlc:=h.Ai.len
 have hL2:∀ x:qd,x.Af.length≤1048576→Ev (fun n=>qdd d x n 0) (bif x.Af.all (netB d) then .nxt (x.Af.length:Int) else .ret false):=fun x hx =>
  qkw (fun n=>by simp only [qdd,qk (je _),cond_false]) (fun j hj X hX=>by
   simp only [qdd,qj hj,cond_true,qct hj,jd,qne hln,wS j,qbo]
   exact Ev.okP1 fun _=>hX)
 have hL1:Ev (fun n=>qc3 l d n 0) (bif allN (fun j=>instB l d (gt d.Aa j)) d.Aa.length then .nxt (d.Aa.length:Int) else .ret false):=by
  refine qd7 ?_ (fun j hj X hX=>Ev.succ ?_)
  ·exact Ev.succ (by simp only [qc3,qk (je _),cond_false];exact .done)
  ·simp only [qc3,qj hj,cond_true,qX hj,jd,qdF,qcr (show l.Ai.length≤9223372036854775807 by omega),wS j,bne]
   have hxl:=(qhQ hd.Aa hj).Af.len
   unfold instB
   rw [←Bool.and_assoc]
   refine Ev.chkT ?_ fun _=>Ev.bind (hL2 _ hxl) ?_
   ·simp only [qbo]
    refine Ev.orBP fun hI=>?_
    rw [qbN] at hI
    rw [qfR hI.1 (by omega)]
    exact .done
   ·cases (gt d.Aa j).Af.all (netB d)
    ·exact .done
    ·exact hX
 have hL3:Ev (fun n=>qc4 d n 0) (bif allN (fun j=>portB d (gt d.Ac j)) d.Ac.length then .nxt (d.Ac.length:Int) else .ret false):=by
  refine qd7 ?_ (fun j hj X hX=>Ev.succ ?_)
  ·exact Ev.succ (by simp only [qc4,qk (je _),cond_false];exact .done)
  ·simp only [qc4,qj hj,cond_true,qX hj,jd,qne hln,wS j]
   simp only [qdF,jd,qbo]
   unfold portB
   exact Ev.okP fun _=>Ev.okP1 fun _=>hX
 unfold qgF
 rw [qhb,qhb]
 refine Ev.bind hL1 ?_
 cases allN (fun j=>instB l d (gt d.Aa j)) d.Aa.length
 ·exact .done
 ·refine Ev.bind hL3 ?_
  cases allN (fun j=>portB d (gt d.Ac j)) d.Ac.length<;>exact .done
theorem qhx {l:qh} {d:qc} (h:qfO l) (hd:qhC d):Ev (fun n=>qeQ n l d) (designB l d):=by
 have hli:=hd.Aa.len
 have hlp:=hd.Ac.len
 have hln:=hd.Af.len
 have hlc:=h.Ai.len
 have e:designB l d=((libB l&&(decide (d.Aa.length≤14)&&(decide (d.Af.length≤30)&&(decide (d.Ac.length≤8)&&(d.Aa.all (instB l d)&&d.Ac.all (portB d))))))&&((namesB (d.Aa.map qd.Aq)&&(namesB (d.Ac.map qy.Aq)&&namesB d.Af))&&drvB d)):=by
  unfold designB hasNamesB
  generalize libB l=a1
  generalize decide (d.Aa.length≤14)=a2
  generalize decide (d.Af.length≤30)=a3
  generalize decide (d.Ac.length≤8)=a4
  generalize d.Aa.all (instB l d)=a5
  generalize d.Ac.all (portB d)=a6
  generalize namesB (d.Aa.map qd.Aq)=a7
  generalize namesB (d.Ac.map qy.Aq)=a8
  generalize namesB d.Af=a9
  generalize drvB d=a10
  rw [jl]
  simp only [jg]
  constructor
  ·rintro ⟨⟨h1,⟨h2,h3,h4⟩,h7,h9,h8⟩,h5,h6,h10⟩
   exact ⟨⟨h1,h2,h3,h4,h5,h6⟩,⟨h7,h8,h9⟩,h10⟩
  ·rintro ⟨⟨h1,h2,h3,h4,h5,h6⟩,⟨h7,h8,h9⟩,h10⟩
   exact ⟨⟨h1,⟨h2,h3,h4⟩,h7,h9,h8⟩,h5,h6,h10⟩
 rw [e]
 unfold qeQ
 refine Ev.guardB ?_ fun hb=>?_
 ·refine Ev.or (qmW h) fun _=>?_
  rw [show decide ((d.Aa.length:Int) > 14) = !decide (d.Aa.length≤14) by rw [jl];simp;omega,show decide ((d.Af.length:Int) > 30) = !decide (d.Af.length≤30) by rw [jl];simp;omega,show decide ((d.Ac.length:Int) > 8) = !decide (d.Ac.length≤8) by rw [jl];simp;omega]
  simp only [qbo]
  exact Ev.orBP fun _=>Ev.orBP fun _=>Ev.orBP fun _=>Ev.neg (qoR h hd)
 ·simp only [jg] at hb
  obtain ⟨hlib,_,_,_,hI,hP⟩:=hb
  rw [qhb,qap] at hI hP
  have hL1:Ev (fun n=>qcg d n ([]:List ByteArray) 0) (d.Aa.map qd.Aq,(d.Aa.length:Int)):=by
   refine loopF (Lf:=qcg d) (S:=fun j=>(d.Aa.take j).map qd.Aq) (len:=d.Aa.length) (fun n=>?_) (fun j hj X hX=>?_)
   ·simp only [qcg,qk (je _),cond_false,jO]
   ·simpa only [qcg,qj hj,cond_true,qX hj,jd,qiB hj hli,qfm (g:=qd.Aq) hj,wS j] using hX
  have hL2:Ev (fun n=>qck d n ([]:List ByteArray) 0) (d.Ac.map qy.Aq,(d.Ac.length:Int)):=by
   refine loopF (Lf:=qck d) (S:=fun j=>(d.Ac.take j).map qy.Aq) (len:=d.Ac.length) (fun n=>?_) (fun j hj X hX=>?_)
   ·simp only [qck,qk (je _),cond_false,jO]
   ·simpa only [qck,qj hj,cond_true,qX hj,jd,qiB hj hlp,qfm (g:=qy.Aq) hj,wS j] using hX
  have hL3:Ev (fun n=>qcj d n (vecC (fun _=>0) d.Af.length) 0) (vecC (fun k=>drvI d k d.Aa.length) d.Af.length,(d.Aa.length:Int)):=by
   refine loopF (Lf:=qcj d) (S:=fun j=>vecC (fun k=>drvI d k j) d.Af.length) (len:=d.Aa.length) (fun n=>?_) (fun j hj X hX=>?_)
   ·simp only [qcj,qk (je _),cond_false]
   ·have hxl:=(qhQ hd.Aa hj).Af.len
    obtain ⟨h1,h2,h3⟩:=ql6 hlib (hI j hj)
    have hc:drvI d (lastN (gt d.Aa j)).toNat j≤j:=qe0
    obtain ⟨e1,e2⟩:=qiv (c:=fun k=>drvI d k j) (c':=fun k=>drvI d k (j+1)) h2 h3 (by show drvI _ _ _<_;omega) (fun k _=>qna)
    simpa only [qcj,qj hj,cond_true,qX hj,jd,wS j,qom h1 hxl,e1,e2] using hX
  have hL4:Ev (fun n=>qbE d n (vecC (fun k=>drvI d k d.Aa.length) d.Af.length) 0) (vecC (fun k=>drvI d k d.Aa.length+drvP d k d.Ac.length) d.Af.length,(d.Ac.length:Int)):=by
   refine loopF (Lf:=qbE d) (S:=fun j=>vecC (fun k=>drvI d k d.Aa.length+drvP d k j) d.Af.length) (len:=d.Ac.length) (fun n=>?_) (fun j hj X hX=>?_)
   ·simp only [qbE,qk (je _),cond_false]
   ·have hi:=hP j hj
    unfold portB netB at hi
    simp only [jg,qbN] at hi
    have hc1:drvI d (gt d.Ac j).Bn.toNat d.Aa.length≤d.Aa.length:=qe0
    have hc2:drvP d (gt d.Ac j).Bn.toNat j≤j:=qe0
    simp only [qbE,qj hj,cond_true,qX hj,jd,wS j]
    cases h1:((gt d.Ac j).Bl==1)
    ·have:vecC (fun k=>drvI d k d.Aa.length+drvP d k (j+1)) d.Af.length=vecC (fun k=>drvI d k d.Aa.length+drvP d k j) d.Af.length:=by
      refine qhG (fun k _=>?_)
      rw [qjD,h1];rfl
     rw [this] at hX
     exact hX
    ·obtain ⟨e1,e2⟩:=qiv (c:=fun k=>drvI d k d.Aa.length+drvP d k j) (c':=fun k=>drvI d k d.Aa.length+drvP d k (j+1)) (x:=(gt d.Ac j).Bn) (m:=d.Af.length) hi.2.1 (by omega) (by show drvI _ _ _+drvP _ _ _<_;omega) (fun k _=>by rw [qjD,h1,jB];omega)
     simp only [cond_true,jd,e1,e2]
     exact hX
  have hL5:Ev (fun n=>qda (vecC (fun _=>0) d.Af.length) (vecC (fun k=>drvI d k d.Aa.length+drvP d k d.Ac.length) d.Af.length) n 0) (bif drvB d then .nxt (d.Af.length:Int) else .ret false):=by
   refine qd7 ?_ (fun j hj X hX=>Ev.succ ?_)
   ·exact Ev.succ (by simp only [qda,qjb,qk (je _),cond_false];exact .done)
   ·simp only [qda,qjb,qj hj,cond_true,qhX hj,jd,bne,qbo,wS j]
    exact Ev.okP1 fun _=>hX
  refine Ev.bind hL1 (Ev.bind hL2 ?_)
  refine Ev.guardB (Ev.or (qjt (qjI hd.Aa (fun x hx=>hx.Aq))) fun _=>Ev.or (qjt (qjI hd.Ac (fun x hx=>hx.Aq))) fun _=>Ev.neg (qjt hd.Af)) fun _=>?_
  rw [qjG (m:=d.Af.length) (by omega)]
  simp only [jd]
  refine Ev.bind hL3 (Ev.bind hL4 (Ev.bind hL5 ?_))
  cases drvB d<;>exact .done
end Go.Fw


namespace Go.Fw
open Go
set_option maxRecDepth 100000
theorem qsj {m k:Nat}:decide ((m:Int)<(k:Int)) = !decide (k≤m):=by rw [jl];simp
theorem qpA {m k:Nat}:decide ((m:Int) > (k:Int)) = !decide (m≤k):=by rw [jl];simp
def treeB (w:qw) (j:Nat):Bool:=bif decide (j=0) then (at0 w.Ak j==-1)&&(at0 w.Bm j==0) else inI (at0 w.Ak j) 0 ((j:Int)-1)
def wireB (w:qw) (s:Int):Bool :=
 lenB w.Ak 1 8&&(((w.Bm.length:Int)==(w.Ak.length:Int))&&(((w.Bk.length:Int)==(w.Ak.length:Int))&&(allN (treeB w) w.Ak.length &&
  ((w.Bm.all fun x=>inI x 0 1000)&&((w.Bk.all fun x=>inI x 0 500)&&(((w.Bc.length:Int)==s)&&(w.Bc.all fun x=>inI x 0 ((w.Ak.length:Int)-1))))))))
theorem qpX {w:qw} (hl:w.Ak.length≤1048576) (hr:((w.Bm.length:Int)==(w.Ak.length:Int))=true):Ev (fun n=>qfu n w) (allN (treeB w) w.Ak.length):=by
 rw [beq_iff_eq] at hr
 have hL:Ev (fun n=>qaG w n 0) (bif allN (treeB w) w.Ak.length then .nxt (w.Ak.length:Int) else .ret false):=by
  refine qd7 ?_ (fun j hj X hX=>Ev.succ ?_)
  ·exact Ev.succ (by simp only [qaG,qk (je _),cond_false];exact .done)
  ·simp only [qaG,qj hj,cond_true,qbI hj,jd,qdt,wS j,bne,qbo]
   unfold treeB
   by_cases h0:j=0
   ·subst h0
    rw [show idx w.Bm (0:Int)=some (at0 w.Bm 0) from qbI (j:=0) (by omega)]
    simp only [jd]
    refine Ev.tt (by simp) (Ev.okP fun _=>Ev.okP1 fun _=>Ev.ff (by simp) hX)
   ·have e1:decide (j=0)=false:=by simp;omega
    have e2:((j:Int)==0)=false:=by simp;omega
    have e3:decide ((j:Int) > 0)=true:=by simp;omega
    rw [e1,e2,e3,qcr (show j≤9223372036854775807 by omega)]
    simp only [cond_false,cond_true]
    exact Ev.okP1 fun _=>hX
 unfold qfu
 refine Ev.bind hL ?_
 cases allN (treeB w) w.Ak.length<;>exact .done
theorem qqm {w:qw} {s:Int} (h:qkF w):Ev (fun n=>qh5 n w s) (wireB w s):=by
 have hl:=h.Ak.len
 simp only [qh5,qaN,jd,qdt,qcr (show w.Ak.length≤9223372036854775807 by omega)]
 unfold wireB
 rw [show inI (w.Ak.length:Int) 1 8=lenB w.Ak 1 8 from qnY (lo:=1) (hi:=8)]
 exact Ev.andP fun _=>Ev.andP fun hr=>Ev.andP fun _=>Ev.and (qpX hl hr) fun _=>Ev.and (qeq h.Bm.len) fun _=>Ev.and (qeq h.Bk.len) fun _=>Ev.andP fun _=>Ev.last (qeq h.Bc.len)
theorem qpi {w:qw} {s:Int} (h:qkF w):Ev (fun n=>qib n w s) (wireB w s):=by
 have hl:=h.Ak.len
 have hsl:=h.Bc.len
 have e:wireB w s=((decide (1≤w.Ak.length)&&(decide (w.Ak.length≤8)&&(((w.Bm.length:Int)==(w.Ak.length:Int))&&(((w.Bk.length:Int)==(w.Ak.length:Int))&&((w.Bc.length:Int)==s)))))&&(allN (fun j=>(inI (at0 w.Bk j) 0 500&&inI (at0 w.Bm j) 0 1000)&&treeB w j) w.Ak.length&&(w.Bc.all fun x=>inI x 0 ((w.Ak.length:Int)-1)))):=by
  unfold wireB lenB
  cases h1:((w.Bm.length:Int)==(w.Ak.length:Int))
  ·simp
  ·cases h2:((w.Bk.length:Int)==(w.Ak.length:Int))
   ·simp
   ·rw [beq_iff_eq] at h1 h2
    rw [qiz,qiz]
    rw [qge (p:=fun x=>inI x 0 1000) (d:=0),qge (p:=fun x=>inI x 0 500) (d:=0),show w.Bm.length=w.Ak.length by omega,show w.Bk.length=w.Ak.length by omega]
    show _=(_&&((allN (fun j=>inI (w.Bk.getD j 0) 0 500) _&&allN (fun j=>inI (w.Bm.getD j 0) 0 1000) _&&_)&&_))
    generalize allN (fun j=>inI (w.Bk.getD j 0) 0 500) w.Ak.length=a1
    generalize allN (fun j=>inI (w.Bm.getD j 0) 0 1000) w.Ak.length=a2
    generalize allN (fun j=>treeB w j) w.Ak.length=a3
    generalize ((w.Bc.length:Int)==s)=a4
    generalize decide (1≤w.Ak.length)=a5
    generalize decide (w.Ak.length≤8)=a6
    generalize (w.Bc.all fun x=>inI x 0 ((w.Ak.length:Int)-1))=a7
    cases a1<;>cases a2<;>cases a3<;>cases a4<;>cases a5<;>cases a6<;>rfl
 rw [e]
 unfold qib
 refine Ev.guardB ?_ fun hb=>?_
 ·rw [show decide ((w.Ak.length:Int)<1) = !decide (1≤w.Ak.length) from qsj (k:=1),show decide ((w.Ak.length:Int) > 8) = !decide (w.Ak.length≤8) from qpA (k:=8)]
  simp only [bne,qbo]
  exact Ev.orBP fun _=>Ev.orBP fun _=>Ev.orBP fun _=>Ev.orBP fun _=>.done
 ·simp only [jg,beq_iff_eq] at hb
  have hL1:Ev (fun n=>qbR w n 0) (bif allN (fun j=>(inI (at0 w.Bk j) 0 500&&inI (at0 w.Bm j) 0 1000)&&treeB w j) w.Ak.length then .nxt (w.Ak.length:Int) else .ret false):=by
   refine qd7 ?_ (fun j hj X hX=>Ev.succ ?_)
   ·exact Ev.succ (by simp only [qbR,qk (je _),cond_false];exact .done)
   ·simp only [qbR,qj hj,cond_true,qbI hj,qbI (show j<w.Bk.length by omega),qbI (show j<w.Bm.length by omega),jd,qdF,wS j,bne,qbo]
    refine Ev.chkT (Ev.orBP fun _=>.done) fun _=>?_
    unfold treeB
    by_cases h0:j=0
    ·subst h0
     refine Ev.tt (by simp) (Ev.okP fun _=>Ev.okP1 fun _=>Ev.ff (by simp) hX)
    ·have e1:decide (j=0)=false:=by simp;omega
     have e2:((j:Int)==0)=false:=by simp;omega
     have e3:decide ((j:Int) > 0)=true:=by simp;omega
     rw [e1,e2,e3,qcr (show j≤9223372036854775807 by omega)]
     simp only [cond_false,cond_true]
     exact Ev.okP1 fun _=>hX
  have hL2:Ev (fun n=>qd2 w n 0) (bif (w.Bc.all fun x=>inI x 0 ((w.Ak.length:Int)-1)) then .nxt (w.Bc.length:Int) else .ret false) :=
   qkw (fun n=>by simp only [qd2,qk (je _),cond_false]) (fun j hj X hX=>by
    simp only [qd2,qj hj,cond_true,qct hj,jd,qdF,qcr (show w.Ak.length≤9223372036854775807 by omega),wS j,qbo]
    exact Ev.okP1 fun _=>hX)
  refine Ev.bind hL1 ?_
  cases allN (fun j=>(inI (at0 w.Bk j) 0 500&&inI (at0 w.Bm j) 0 1000)&&treeB w j) w.Ak.length
  ·exact .done
  ·refine Ev.bind hL2 ?_
   cases (w.Bc.all fun x=>inI x 0 ((w.Ak.length:Int)-1))<;>exact .done
instance:Inhabited Tplace:=⟨⟨0,0,0,false⟩⟩
instance:Inhabited Tl05Place:=⟨⟨0,0,0,false⟩⟩
def toSp (p:Tplace):Tl05Place:=⟨p.instance_,p.pin,p.net,p.drives⟩
def plX (i:Nat) (x:qd) (j:Nat):List Tplace:=(List.range j).map fun (k:Nat)=>⟨(i:Int),(k:Int),at0 x.Af k,decide (k+1=x.Af.length)⟩
def plI (d:qc) (j:Nat):List Tplace:=(List.range j).flatMap fun (i:Nat)=>plX i (gt d.Aa i) (gt d.Aa i).Af.length
def plP (d:qc) (j:Nat):List Tplace:=(List.range j).map fun (i:Nat)=>⟨-1,(i:Int),(gt d.Ac i).Bn,(gt d.Ac i).Bl==1⟩
def places (d:qc):List Tplace:=plI d d.Aa.length++plP d d.Ac.length
theorem qoH {i:Nat} {x:qd} {j:Nat}:plX i x (j+1)=plX i x j++[⟨(i:Int),(j:Int),at0 x.Af j,decide (j+1=x.Af.length)⟩]:=by
 unfold plX;rw [List.range_succ,jM];rfl
theorem qje {d:qc} {j:Nat}:plI d (j+1)=plI d j++plX j (gt d.Aa j) (gt d.Aa j).Af.length:=by
 unfold plI;rw [List.range_succ,List.flatMap_append];simp
theorem qoT {d:qc} {j:Nat}:plP d (j+1)=plP d j++[⟨-1,(j:Int),(gt d.Ac j).Bn,(gt d.Ac j).Bl==1⟩]:=by
 unfold plP;rw [List.range_succ,jM];rfl
theorem qlL {i:Nat} {x:qd} {j:Nat}:(plX i x j).length=j:=by simp [plX]
theorem qlM {d:qc} {j:Nat}:(plP d j).length=j:=by simp [plP]
structure smallD (d:qc):Prop where
 ni:d.Aa.length≤14
 nn:d.Af.length≤30
 np:d.Ac.length≤8
 nx:∀ i,i<d.Aa.length→2≤(gt d.Aa i).Af.length∧(gt d.Aa i).Af.length≤5
theorem qaM {l:qh} {d:qc} (h:designB l d=true):smallD d:=by
 unfold designB hasNamesB libB at h
 simp only [jg,decide_eq_true_eq] at h
 obtain ⟨⟨⟨hc,_⟩,⟨h1,h2,h3⟩,_⟩,hI,_⟩:=h
 refine ⟨h1,h2,h3,fun i hi=>?_⟩
 rw [qhb,qap] at hI hc
 have:=hI i hi
 unfold instB at this
 simp only [jg,qbN,beq_iff_eq] at this
 have h5:=qhU (qlS (hc (gt d.Aa i).Bg.toNat (by omega)))
 omega
theorem qkn {d:qc} (h:smallD d) {j:Nat} (hj:j≤d.Aa.length):(plI d j).length≤5*j:=by
 induction j with
 | zero=>exact je _
 | succ j ih =>
  rw [qje,ji,qlL]
  have:=ih (by omega)
  have:=h.nx j (by omega)
  omega
theorem qcJ {d:qc} (h:smallD d):(places d).length≤78:=by
 unfold places
 rw [ji,qlM]
 have:=qkn h (je _)
 have:=h.ni
 have:=h.np
 omega
theorem qiw {d:qc} (h:smallD d):Ev (fun n=>qbf n d) (places d):=by
 have h1:=h.ni
 have h2:=h.np
 have hL2:∀ i,i<d.Aa.length→∀ pre:List Tplace,pre.length≤100→Ev (fun n=>qa6 (i:Int) (gt d.Aa i) n pre 0) (pre++plX i (gt d.Aa i) (gt d.Aa i).Af.length,((gt d.Aa i).Af.length:Int)):=by
  intro i hi pre hp
  have h5:=h.nx i hi
  have:=loopF (Lf:=qa6 (i:Int) (gt d.Aa i)) (S:=fun j=>pre++plX i (gt d.Aa i) j) (len:=(gt d.Aa i).Af.length) (fin:=(pre++plX i (gt d.Aa i) (gt d.Aa i).Af.length,((gt d.Aa i).Af.length:Int))) (fun n=>by
    simp only [qa6,qk (je _),cond_false])
   (fun j hj X hX=>by
    have hc:(pre++plX i (gt d.Aa i) j).length+[(⟨(i:Int),(j:Int),at0 (gt d.Aa i).Af j,decide (j+1=(gt d.Aa i).Af.length)⟩:Tplace)].length≤2147483648:=by
     rw [ji,qlL];simp;omega
    simp only [qa6,qj hj,cond_true,qbI hj,jd,lastE hj (show (gt d.Aa i).Af.length≤1048576 by omega),qcR hc,jE,←qoH,wS j]
    exact hX)
  simpa [plX] using this
 have hL1:Ev (fun n=>qa5 d n ([]:List Tplace) 0) (plI d d.Aa.length,(d.Aa.length:Int)):=by
  refine loopF (Lf:=qa5 d) (S:=fun j=>plI d j) (len:=d.Aa.length) (fun n=>?_) (fun j hj X hX=>?_)
  ·simp only [qa5,qk (je _),cond_false]
  ·simp only [qa5,qj hj,cond_true,qX hj,jd,wS j]
   refine Ev.bind (hL2 j hj _ (by have:=qkn h (Nat.le_of_lt hj);omega)) ?_
   rw [←qje]
   exact hX
 have hL3:Ev (fun n=>qa4 d n (plI d d.Aa.length) 0) (places d,(d.Ac.length:Int)):=by
  have:=loopF (Lf:=qa4 d) (S:=fun j=>plI d d.Aa.length++plP d j) (len:=d.Ac.length) (fin:=(places d,(d.Ac.length:Int))) (fun n=>by
    simp only [qa4,qk (je _),cond_false];rfl)
   (fun j hj X hX=>by
    have hc:(plI d d.Aa.length++plP d j).length+[(⟨-1,(j:Int),(gt d.Ac j).Bn,(gt d.Ac j).Bl==1⟩:Tplace)].length≤2147483648:=by
     rw [ji,qlM];have:=qkn h (je _);simp;omega
    simp only [qa4,qj hj,cond_true,qX hj,jd,qcR hc,jE,←qoT,wS j]
    exact hX)
  simpa [plP] using this
 unfold qbf
 exact Ev.bind hL1 (Ev.bind hL3 .done)
theorem qiL {d:qc} (h:smallD d):Ev (fun n=>qdj n d) ((places d).map toSp):=by
 have h1:=h.ni
 have h2:=h.np
 have hL2:∀ i,i<d.Aa.length→∀ pre:List Tplace,pre.length≤100→Ev (fun n=>qbO (i:Int) (gt d.Aa i) n (pre.map toSp) 0) ((pre++plX i (gt d.Aa i) (gt d.Aa i).Af.length).map toSp,((gt d.Aa i).Af.length:Int)):=by
  intro i hi pre hp
  have h5:=h.nx i hi
  have:=loopF (Lf:=qbO (i:Int) (gt d.Aa i)) (S:=fun j=>(pre++plX i (gt d.Aa i) j).map toSp) (len:=(gt d.Aa i).Af.length) (fin:=((pre++plX i (gt d.Aa i) (gt d.Aa i).Af.length).map toSp,((gt d.Aa i).Af.length:Int))) (fun n=>by
    simp only [qbO,qk (je _),cond_false])
   (fun j hj X hX=>by
    have hc:((pre++plX i (gt d.Aa i) j).map toSp).length+[(⟨(i:Int),(j:Int),at0 (gt d.Aa i).Af j,decide (j+1=(gt d.Aa i).Af.length)⟩:Tl05Place)].length≤2147483648:=by
     rw [jH,ji,qlL];simp;omega
    simp only [qbO,qj hj,cond_true,qbI hj,jd,lastE hj (show (gt d.Aa i).Af.length≤1048576 by omega),qcR hc,wS j]
    rw [qoH,←jE,jM] at hX
    exact hX)
  simpa [plX] using this
 have hL1:Ev (fun n=>qbW d n ([]:List Tl05Place) 0) ((plI d d.Aa.length).map toSp,(d.Aa.length:Int)):=by
  refine loopF (Lf:=qbW d) (S:=fun j=>(plI d j).map toSp) (len:=d.Aa.length) (fun n=>?_) (fun j hj X hX=>?_)
  ·simp only [qbW,qk (je _),cond_false]
  ·simp only [qbW,qj hj,cond_true,qX hj,jd,wS j]
   refine Ev.bind (hL2 j hj _ (by have:=qkn h (Nat.le_of_lt hj);omega)) ?_
   rw [←qje]
   exact hX
 have hL3:Ev (fun n=>qbM d n ((plI d d.Aa.length).map toSp) 0) ((places d).map toSp,(d.Ac.length:Int)):=by
  have:=loopF (Lf:=qbM d) (S:=fun j=>(plI d d.Aa.length++plP d j).map toSp) (len:=d.Ac.length) (fin:=((places d).map toSp,(d.Ac.length:Int))) (fun n=>by
    simp only [qbM,qk (je _),cond_false];rfl)
   (fun j hj X hX=>by
    have hc:((plI d d.Aa.length++plP d j).map toSp).length+[(⟨-1,(j:Int),(gt d.Ac j).Bn,(gt d.Ac j).Bl==1⟩:Tl05Place)].length≤2147483648:=by
     rw [jH,ji,qlM];have:=qkn h (je _);simp;omega
    simp only [qbM,qj hj,cond_true,qX hj,jd,qcR hc,wS j]
    rw [qoT,←jE,jM] at hX
    exact hX)
  simpa [plP] using this
 unfold qdj
 exact Ev.bind hL1 (Ev.bind hL3 .done)
def snkQ (d:qc) (k:Int) (i:Nat):Bool:=((gt (places d) i).net==k)&&!(gt (places d) i).drives
def sinksL (d:qc) (k:Int) (j:Nat):List Int:=((List.range j).filter (snkQ d k)).map fun (i:Nat)=>(i:Int)
def snkN (d:qc) (k:Int):Nat:=cntP (snkQ d k) (places d).length
theorem qjg {d:qc} {k:Int} {j:Nat}:sinksL d k (j+1)=sinksL d k j++(bif snkQ d k j then [(j:Int)] else []):=by
 unfold sinksL
 rw [List.range_succ,List.filter_append,jM]
 congr 1
 cases h:snkQ d k j<;>simp [h]
theorem qgw {d:qc} {k:Int} {j:Nat}:(sinksL d k j).length=cntP (snkQ d k) j:=by
 induction j with
 | zero=>rfl
 | succ j ih =>
  rw [qjg,ji,ih]
  show _=cntP (snkQ d k) j+_
  congr 1
  cases snkQ d k j<;>rfl
theorem qqP {α β:Type} [Inhabited α] [Inhabited β] {xs:List α} {g:α→β} {j:Nat} (h:j<xs.length):gt (xs.map g) j=g (gt xs j):=by
 rw [qi1 (by simpa using h),qi1 h];simp
theorem qoS {d:qc} {k:Int} (h:smallD d):Ev (fun n=>qgK n d k) (sinksL d k (places d).length):=by
 have hl:=qcJ h
 have hL:Ev (fun n=>qbB k ((places d).map toSp) n ([]:List Int) 0) (sinksL d k (places d).length,((places d).length:Int)):=by
  refine loopF (Lf:=qbB k ((places d).map toSp)) (S:=fun j=>sinksL d k j) (len:=(places d).length) (fun n=>?_) (fun j hj X hX=>?_)
  ·simp only [qbB,jH,qk (je _),cond_false]
  ·have hj':j<((places d).map toSp).length:=by simpa using hj
   have hc:(sinksL d k j).length+[(j:Int)].length≤2147483648:=by
    rw [qgw]
    have:cntP (snkQ d k) j≤j:=qe0
    simp;omega
   simp only [qbB,qj hj',cond_true,qX hj',qqP hj,jd,wS j]
   rw [show ∀ p:Tplace,(toSp p).net=p.net from fun _=>rfl,show ∀ p:Tplace,(toSp p).drives=p.drives from fun _=>rfl]
   refine Ev.bind (b:=snkQ d k j) (Ev.andP fun _=>.done) ?_
   rw [qjg] at hX
   cases hq:snkQ d k j
   ·rw [hq] at hX
    simp only [cond_false,List.append_nil] at hX ⊢
    exact hX
   ·rw [hq] at hX
    simp only [cond_true,qcR hc,jd] at hX ⊢
    exact hX
 unfold qgK
 exact Ev.bind (qiL h) (Ev.bind hL .done)
theorem qlP {l:qh} {d:qc} (h:designB l d=true) {i:Nat} (hi:i<(places d).length):0≤(gt (places d) i).net∧(gt (places d) i).net<d.Af.length:=by
 unfold designB at h
 simp only [jg] at h
 obtain ⟨_,hI,hP,_⟩:=h
 rw [qhb,qap] at hI hP
 have hm:gt (places d) i ∈ places d:=by rw [qi1 hi];exact ju hi
 generalize gt (places d) i=p at hm
 unfold places at hm
 rcases List.mem_append.1 hm with hm|hm
 ·unfold plI at hm
  obtain ⟨i,hi,hm⟩:=List.mem_flatMap.1 hm
  unfold plX at hm
  obtain ⟨k,hk,rfl⟩:=List.mem_map.1 hm
  have:=hI i (List.mem_range.1 hi)
  unfold instB at this
  simp only [jg] at this
  have h3:=this.2.2
  rw [qge (d:=0),qap] at h3
  have h4:=h3 k (List.mem_range.1 hk)
  unfold netB at h4
  rw [qbN] at h4
  show 0≤at0 _ _∧at0 _ _<_
  unfold at0
  omega
 ·unfold plP at hm
  obtain ⟨i,hi,rfl⟩:=List.mem_map.1 hm
  have:=hP i (List.mem_range.1 hi)
  unfold portB netB at this
  simp only [jg,qbN] at this
  show 0≤(gt d.Ac i).Bn∧(gt d.Ac i).Bn<_
  omega
def blockB (b:qm):Bool:=(designB b.Ah b.Ab&&((b.Aj.length:Int)==(b.Ab.Af.length:Int)))&&allN (fun j=>wireB (gt b.Aj j) (snkN b.Ab (j:Int))) b.Aj.length
theorem ql7 {b:qm} (h:qbP b):Ev (fun n=>qhk n b) (blockB b):=by
 have hwl:=h.Aj.len
 unfold qhk blockB
 refine Ev.guardB (Ev.or (qof h.Ah h.Ab) fun _=>.done) fun hb=>?_
 rw [jg,beq_iff_eq] at hb
 obtain ⟨hd,hw⟩:=hb
 have hs:=qaM hd
 have hl:=qcJ hs
 have hn:=hs.nn
 rw [qjG (m:=b.Aj.length) (by omega)]
 simp only [jd]
 have hL1:Ev (fun n=>qb3 (places b.Ab) n (vecC (fun _=>0) b.Aj.length) 0) (vecC (fun k=>snkN b.Ab (k:Int)) b.Aj.length,((places b.Ab).length:Int)):=by
  refine loopF (Lf:=qb3 (places b.Ab)) (S:=fun j=>vecC (fun k=>cntP (snkQ b.Ab (k:Int)) j) b.Aj.length) (len:=(places b.Ab).length) (fun n=>?_) (fun j hj X hX=>?_)
  ·simp only [qb3,qk (je _),cond_false];rfl
  ·simp only [qb3,qj hj,cond_true,qX hj,jd,wS j]
   obtain ⟨n0,n1⟩:=qlP hd hj
   cases h1:(gt (places b.Ab) j).drives
   ·have hc:cntP (snkQ b.Ab (((gt (places b.Ab) j).net.toNat:Nat):Int)) j≤j:=qe0
    obtain ⟨e1,e2⟩:=qiv (c:=fun k=>cntP (snkQ b.Ab (k:Int)) j) (c':=fun k=>cntP (snkQ b.Ab (k:Int)) (j+1)) (x:=(gt (places b.Ab) j).net) (m:=b.Aj.length) n0 (by omega) (by show cntP _ _<_;omega) (fun k _=>by
     show cntP _ j+(bif snkQ b.Ab (k:Int) j then 1 else 0)=_
     unfold snkQ
     rw [h1,Bool.not_false,Bool.and_true])
    simp only [Bool.not_false,cond_true,jd,e1,e2]
    exact hX
   ·have:vecC (fun k=>cntP (snkQ b.Ab (k:Int)) (j+1)) b.Aj.length=vecC (fun k=>cntP (snkQ b.Ab (k:Int)) j) b.Aj.length:=by
     refine qhG (fun k _=>?_)
     show cntP _ j+(bif snkQ b.Ab (k:Int) j then 1 else 0)=_
     unfold snkQ
     rw [h1,Bool.not_true,Bool.and_false];rfl
    rw [this] at hX
    exact hX
 have hL2:Ev (fun n=>qdB b (vecC (fun k=>snkN b.Ab (k:Int)) b.Aj.length) n 0) (bif allN (fun j=>wireB (gt b.Aj j) (snkN b.Ab (j:Int))) b.Aj.length then .nxt (b.Aj.length:Int) else .ret false):=by
  refine qd7 ?_ (fun j hj X hX=>Ev.succ ?_)
  ·exact Ev.succ (by simp only [qdB,qk (je _),cond_false];exact .done)
  ·simp only [qdB,qj hj,cond_true,qX hj,qhX hj,jd,wS j]
   exact Ev.chk1 (qqm (qhQ h.Aj hj)) fun _=>hX
 refine Ev.bind (qiw hs) (Ev.bind hL1 (Ev.bind hL2 ?_))
 cases allN (fun j=>wireB (gt b.Aj j) (snkN b.Ab (j:Int))) b.Aj.length<;>exact .done
theorem qot {b:qm} (h:qbP b):Ev (fun n=>qhn n b) (blockB b):=by
 have hwl:=h.Aj.len
 unfold qhn blockB
 refine Ev.guardB (Ev.or (qhx h.Ah h.Ab) fun _=>.done) fun hb=>?_
 rw [jg] at hb
 have hs:=qaM hb.1
 have hL:Ev (fun n=>qds b n 0) (bif allN (fun j=>wireB (gt b.Aj j) (snkN b.Ab (j:Int))) b.Aj.length then .nxt (b.Aj.length:Int) else .ret false):=by
  refine qd7 ?_ (fun j hj X hX=>Ev.succ ?_)
  ·exact Ev.succ (by simp only [qds,qk (je _),cond_false];exact .done)
  ·simp only [qds,qj hj,cond_true,qX hj,jd,wS j]
   refine Ev.bind (qoS hs) ?_
   rw [qgw]
   exact Ev.chk1 (qpi (qhQ h.Aj hj)) fun _=>hX
 refine Ev.bind hL ?_
 cases allN (fun j=>wireB (gt b.Aj j) (snkN b.Ab (j:Int))) b.Aj.length<;>exact .done
end Go.Fw


namespace Go.Fw
open Go
set_option maxRecDepth 100000
def off (d:qc) (i:Nat):Nat:=(plI d i).length
def place1 (d:qc) (i k:Nat):Tplace:=⟨(i:Int),(k:Int),at0 (gt d.Aa i).Af k,decide (k+1=(gt d.Aa i).Af.length)⟩
def place2 (d:qc) (i:Nat):Tplace:=⟨-1,(i:Int),(gt d.Ac i).Bn,(gt d.Ac i).Bl==1⟩
theorem qmj {d:qc} {i:Nat}:off d (i+1)=off d i+(gt d.Aa i).Af.length:=by
 unfold off;rw [qje,ji,qlL]
theorem qjn {d:qc}:(places d).length=off d d.Aa.length+d.Ac.length:=by
 unfold places off;rw [ji,qlM]
theorem qs2 {d:qc} {n i k:Nat} (hi:i<n) (hk:k<(gt d.Aa i).Af.length):off d i+k<off d n∧gt (plI d n) (off d i+k)=place1 d i k:=by
 induction n with
 | zero=>omega
 | succ n ih =>
  rw [qje,qk2]
  rcases Nat.lt_succ_iff_lt_or_eq.1 hi with h|rfl
  ·obtain ⟨h1,h2⟩:=ih h
   refine ⟨by rw [qmj];omega,?_⟩
   rw [if_pos (show off d i+k<(plI d n).length from h1),h2]
  ·refine ⟨by rw [qmj];omega,?_⟩
   rw [if_neg (by unfold off;omega),show off d i+k-(plI d i).length=k by unfold off;omega]
   exact qoK hk
theorem qqx {d:qc} {i k:Nat} (hi:i<d.Aa.length) (hk:k<(gt d.Aa i).Af.length):off d i+k<(places d).length∧gt (places d) (off d i+k)=place1 d i k:=by
 obtain ⟨h1,h2⟩:=qs2 hi hk
 refine ⟨by rw [qjn];omega,?_⟩
 unfold places
 rw [qk2,if_pos (show off d i+k<(plI d d.Aa.length).length from h1),h2]
theorem qp4 {d:qc} {i:Nat} (hi:i<d.Ac.length):off d d.Aa.length+i<(places d).length∧gt (places d) (off d d.Aa.length+i)=place2 d i:=by
 refine ⟨by rw [qjn];omega,?_⟩
 unfold places
 rw [qk2,if_neg (by unfold off;omega),show off d d.Aa.length+i-(plI d d.Aa.length).length=i by unfold off;omega]
 exact qoK hi
theorem qpS {d:qc} {n j:Nat} (hj:j<off d n):∃ i k,i<n∧k<(gt d.Aa i).Af.length∧j=off d i+k:=by
 induction n with
 | zero=>exact absurd hj (Nat.not_lt_zero _)
 | succ n ih =>
  by_cases h:j<off d n
  ·obtain ⟨i,k,h1,h2,h3⟩:=ih h
   exact ⟨i,k,by omega,h2,h3⟩
  ·rw [qmj] at hj
   exact ⟨n,j-off d n,by omega,by omega,by omega⟩
theorem qla {d:qc} {j:Nat} (hj:j<(places d).length) :
  (∃ i k,i<d.Aa.length∧k<(gt d.Aa i).Af.length∧j=off d i+k∧gt (places d) j=place1 d i k) ∨
  (∃ i,i<d.Ac.length∧j=off d d.Aa.length+i∧gt (places d) j=place2 d i):=by
 rw [qjn] at hj
 by_cases h:j<off d d.Aa.length
 ·obtain ⟨i,k,h1,h2,rfl⟩:=qpS h
  exact .inl ⟨i,k,h1,h2,rfl,(qqx h1 h2).2⟩
 ·refine .inr ⟨j-off d d.Aa.length,by omega,by omega,?_⟩
  have:=(qp4 (d:=d) (i:=j-off d d.Aa.length) (by omega)).2
  rwa [show off d d.Aa.length+(j-off d d.Aa.length)=j by omega] at this
def cellAt (b:qm) (i:Int):qn:=gt b.Ah.Ai (gt b.Ab.Aa i.toNat).Bg.toNat
theorem qkY {l:qh} {d:qc} (h:designB l d=true) {i:Nat} (hi:i<d.Aa.length) :
  (0≤(gt d.Aa i).Bg∧(gt d.Aa i).Bg<l.Ai.length)∧(gt d.Aa i).Af.length=(gt l.Ai (gt d.Aa i).Bg.toNat).Am.length∧cellB (gt l.Ai (gt d.Aa i).Bg.toNat)=true:=by
 unfold designB libB at h
 simp only [jg] at h
 obtain ⟨⟨⟨hc,_⟩,_⟩,hI,_⟩:=h
 rw [qhb,qap] at hI hc
 have:=hI i hi
 unfold instB at this
 simp only [jg,qbN,beq_iff_eq] at this
 exact ⟨⟨this.1.1,by omega⟩,by omega,hc _ (by omega)⟩
theorem qo3 {c:qn} (h:cellB c=true):c.Ar.length≤8:=by
 unfold cellB at h
 simp only [jg,decide_eq_true_eq] at h
 exact h.2.2.1.2
theorem qch {b:qm} (h:blockB b=true):designB b.Ah b.Ab=true:=by
 unfold blockB at h;simp only [jg] at h;exact h.1.1
end Go.Fw
