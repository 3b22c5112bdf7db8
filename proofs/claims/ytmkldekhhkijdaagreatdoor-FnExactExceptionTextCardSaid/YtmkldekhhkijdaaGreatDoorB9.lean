/- By a program of mine (gen.py): for each function a plain function and the proof that the code computes it. -/
import Derived.Test.YtmkldekhhkijdaaGreatDoorA2
import Derived.Test.YtmkldekhhkijdaaGreatDoorFw37
open Option renaming bind_some → jd
open Nat renaming le_refl → je, mul_le_mul_right → jm, le_of_ble_eq_true → jo, lt_of_lt_of_le → jq, succ_mul → jz, zero_add → jJ, zero_le → jK
open Go.Result renaming andThen_ok → jf
open Bool renaming and_eq_true → jg, eq_iff_iff → ji, true_and → jx, not_eq_true' → jD, not_true → jI
open List renaming getElem?_eq_getElem → jh, length_append → jl, mem_cons_of_mem → jn, getElem?_append_left → jp, getElem?_take → jr, mem_cons_self → js, getElem_mem → jt, getElem?_append_right → ju, getD_eq_getElem?_getD → jv, getElem?_toArray → jw, eq_nil_of_length_eq_zero → jy, size_toArray → jA, mem_of_getElem? → jB, length_singleton → jC, length_map → jF, append_assoc → jG, getElem_of_mem → jH
open Go.Sem renaming run_bind → jj, run_pure → jk
open Int renaming toNat_natCast → jE

namespace Go.Fw
open Go Go.Proofs
open Go.RowKit (Below)
set_option maxRecDepth 100000
set_option maxHeartbeats 6400000
variable {n:Nat} {w:World} {cs1 cs2 cs3 cs4 cs5 cs6 cs7 cs8 cs9:List Value}
def qcl (a_1:qb) (y1:qd):Nat→Int→Option (Flow Bool Int)
 | 0,_=>none
 | n+1,i2 =>
  bif decide (i2<(y1.Af.length:Int)) then
   (idx y1.Af i2).bind fun y2 =>
   (qO n y2 0 (W64 ((a_1.Af.length:Int)-1))).bind fun r1 =>
   bif (!r1) then some (.ret false) else
   qcl a_1 y1 n (W64 (i2+1))
  else
   some (.nxt i2)
def qck (a_1:qb):Nat→Int→Option (Flow Bool Int)
 | 0,_=>none
 | n+1,i3 =>
  bif decide (i3<(a_1.Ac.length:Int)) then
   (idx a_1.Ac i3).bind fun y4 =>
   (qO n y4.Bl 1 2).bind fun r3 =>
   bif (!r3) then some (.ret false) else
   (idx a_1.Ac i3).bind fun y5 =>
   (qO n y5.Bm 0 (W64 ((a_1.Af.length:Int)-1))).bind fun r4 =>
   bif (!r4) then some (.ret false) else
   qck a_1 n (W64 (i3+1))
  else
   some (.nxt i3)
def qcq (a_0:qh) (a_1:qb):Nat→Int→Option (Flow Bool Int)
 | 0,_=>none
 | n+1,i1 =>
  bif decide (i1<(a_1.Aa.length:Int)) then
   (idx a_1.Aa i1).bind fun y1 =>
   (
    (qO n y1.Be 0 (W64 ((a_0.Aj.length:Int)-1))).bind fun r2 =>
    bif (!r2) then some true else
    (idx a_0.Aj y1.Be).bind fun y3 =>
    some ((y1.Af.length:Int) != (y3.Ak.length:Int))).bind fun b2 =>
   bif b2 then some (.ret false) else
   (qcl a_1 y1 n 0).bind fun o=>match o with
   | .ret r=>some (.ret r)
   | .nxt _ =>
    qcq a_0 a_1 n (W64 (i1+1))
  else
   some (.nxt i1)
def qft (n:Nat) (a_0:qh) (a_1:qb):Option Bool :=
 (qcq a_0 a_1 n 0).bind fun o=>match o with
 | .ret r=>some r
 | .nxt _ =>
  (qck a_1 n 0).bind fun o=>match o with
  | .ret r=>some r
  | .nxt _ =>
   some true
theorem qjl {a_0:qh} {a_1:qb} (ha1:Ro w a_0 cs1) (ha2:Ro w a_1 cs2) {r:Bool} (hF:qft n a_0 a_1=some r):RetV Tryz.prog 134 [GoT.v qh cs1,GoT.v qb cs2] w r:=by
 obtain ⟨p1,k1,rfl,s1⟩:=qZ ha1
 obtain ⟨p2,k2,p3,k3,p4,k4,rfl,s2,s3,s4⟩:=qK ha2
 refine zV 90 Tryz.func134 rfl fun h=>zSR (qr h rfl rfl fun w1 bb1 h=>qr h rfl rfl fun w2 bb2 h=>X1 14 0 h rfl ?_)
 obtain ⟨o1,hF,hK1⟩:=qe hF
 refine ql (rL (fun m e w'=>∃ (i1:Int),qcq a_0 a_1 m i1=some o1∧e=[(2,.pointer (some ⟨bb1,0,none⟩)),(3,.pointer (some ⟨bb2,0,none⟩)),(5,.int .i64 (a_1.Af.length:Int)),(6,.int .i64 i1)]∧SH w w' [Ch.box bb2 (qav a_1 p2 p3 p4 k2 k3 k4) 45,Ch.box bb1 [.slice p1 a_0.Aj.length k1] 41]) n ⟨_,hF,rfl,h⟩ rfl ?_)
 rintro m1 e1 w3 ⟨i1,hF,rfl,h⟩
 rcases m1 with _|m1
 ·cases hF
 refine X1 9 0 h rfl (qf rfl hF ?_ ?_)<;>intro hF
 ·refine X1 8 0 h rfl ?_
  obtain ⟨y1,hy1,hF,he1,b1,_,q1,cs3,hp1,hq1,hr1,hc2⟩:=s2.ix hF
  obtain ⟨p5,k5,rfl,s5⟩:=qA hr1
  refine zxe hp1 hq1 he1 rfl (zc 0 (hc2.below h.below) rfl (qC qc h rfl rfl rfl fun w4 bb3 h=>zs 0 h rfl fun w5 h=>zNSS ?_))
  obtain ⟨KF1,hKF1,o3,hF,hK3⟩:=bindE hF
  refine qcX (fun e w'=>∃ (b2:Bool),KF1 b2=some o1∧e=[(2,.pointer (some ⟨bb1,0,none⟩)),(3,.pointer (some ⟨bb2,0,none⟩)),(5,.int .i64 (a_1.Af.length:Int)),(6,.int .i64 i1),(7,.pointer (some ⟨bb3,0,none⟩)),(46,.bool b2)]∧SH w w' [Ch.box bb3 (qfV y1 p5 k5) 121,Ch.box bb2 (qav a_1 p2 p3 p4 k2 k3 k4) 45,Ch.box bb1 [.slice p1 a_0.Aj.length k1] 41]) ?_ ?_
  ·refine rD (Y1 2 0 h rfl ?_)
   refine Y1 2 2 h rfl ?_
   refine zd2 rfl ?_
   obtain ⟨r2,hr4,hF⟩:=qe hF
   refine qa4 r2 (vsB _) (cB 47 rfl) (fun _ hb=>qF  hr4) rfl rfl rfl rfl (zd2 rfl (qaX (t:=33) hF rfl ?_ ?_))<;>intro hF
   ·refine Y0 13 rfl (dN h fun w8 h=>?_)
    obtain rfl:=qa hF
    exact rG ⟨_,hK3,rfl,h⟩ rfl
   refine Y1 4 0 h rfl ?_
   refine Y1 6 2 h rfl ?_
   refine Y1 4 0 h rfl ?_
   refine Y0 1 rfl ?_
   obtain ⟨y3,hy3,hF,he3,b4,_,q3,cs5,hp3,hq3,hr5,hc7⟩:=s1.ix hF
   obtain ⟨p6,k6,p7,k7,p8,k8,rfl,s6,s7,s8⟩:=qE hr5
   refine zdxe hp3 hq3 he3 rfl (Y0 3 rfl (zdc 2 (hc7.below h.below) rfl (Y0 5 rfl (dN h fun w9 h=>?_))))
   obtain rfl:=qa hF
   exact rG ⟨_,hK3,rfl,h⟩ rfl
  rintro e3 w10 ⟨b2,hF,rfl,h⟩
  subst hKF1
  refine qf rfl hF ?_ ?_<;>intro hF
  ·refine X0 4 rfl ?_
   obtain rfl:=qa hF;replace hF:=hK1
   exact rb h hF rfl
  refine X0 5 rfl ?_
  obtain ⟨o2,hF,hK2⟩:=qe hF
  refine ql (rL (fun m e w'=>∃ (i2:Int),qcl a_1 y1 m i2=some o2∧e=[(2,.pointer (some ⟨bb1,0,none⟩)),(3,.pointer (some ⟨bb2,0,none⟩)),(5,.int .i64 (a_1.Af.length:Int)),(6,.int .i64 i1),(7,.pointer (some ⟨bb3,0,none⟩)),(8,.int .i64 i2)]∧SH w w' [Ch.box bb3 (qfV y1 p5 k5) 121,Ch.box bb2 (qav a_1 p2 p3 p4 k2 k3 k4) 45,Ch.box bb1 [.slice p1 a_0.Aj.length k1] 41]) m1 ⟨_,hF,rfl,h⟩ rfl ?_)
  rintro m2 e2 w6 ⟨i2,hF,rfl,h⟩
  rcases m2 with _|m2
  ·cases hF
  refine X1 9 0 h rfl (qf rfl hF ?_ ?_)<;>intro hF
  ·refine X1 8 0 h rfl ?_
   obtain ⟨y2,hy2,hF,he2,b3,_,q2,cs4,hp2,hq2,rfl,hc5⟩:=s5.ix hF
   refine zxe hp2 hq2 he2 rfl (zc 0 (hc5.below h.below) rfl (zp2 rfl (zcB h hF qF rfl fun r1 w7 h hF=>X0 2 rfl (qf rfl hF ?_ ?_))))<;>intro hF
   ·refine X0 4 rfl ?_
    obtain rfl:=qa hF;replace hF:=hK2
    obtain rfl:=qa hF;replace hF:=hK1
    exact rb h hF rfl
   exact X0 7 rfl (rK ⟨_,hF,rfl,h⟩ rfl)
  refine qq rfl ?_
  obtain rfl:=qa hF;replace hF:=hK2
  refine X0 6 rfl ?_
  replace h:=h.pick [1,2] rfl
  exact rK ⟨_,hF,rfl,h⟩ rfl
 refine qq rfl ?_
 obtain rfl:=qa hF;replace hF:=hK1
 refine X0 5 rfl ?_
 obtain ⟨o4,hF,hK4⟩:=qe hF
 refine ql ?_
 replace h:=h.pick [0] rfl
 refine rL (fun m e w'=>∃ (i3:Int),qck a_1 m i3=some o4∧e=[(3,.pointer (some ⟨bb2,0,none⟩)),(5,.int .i64 (a_1.Af.length:Int)),(9,.int .i64 i3)]∧SH w w' [Ch.box bb2 (qav a_1 p2 p3 p4 k2 k3 k4) 45]) n ⟨_,hF,rfl,h⟩ rfl ?_
 rintro m3 e4 w11 ⟨i3,hF,rfl,h⟩
 rcases m3 with _|m3
 ·cases hF
 refine X1 9 0 h rfl (qf rfl hF ?_ ?_)<;>intro hF
 ·refine X1 8 0 h rfl ?_
  obtain ⟨y4,hy4,hF,he4,b5,_,q4,cs6,hp4,hq4,hr6,hc9⟩:=s4.ix hF
  obtain rfl:=qab hr6
  refine zxe hp4 hq4 he4 rfl (zp1 rfl (zc 1 (hc9.below h.below) rfl (zcB h hF qF rfl fun r3 w12 h hF=>zp2 rfl (qg (t:=78) hF rfl ?_ ?_))))<;>intro hF
  ·refine X0 12 rfl (qc3 rfl rfl (X0 4 rfl ?_))
   obtain rfl:=qa hF;replace hF:=hK4
   exact rb h hF rfl
  refine X1 7 0 h rfl ?_
  obtain ⟨y5,hy5,hF,he5,b6,_,q5,cs7,hp5,hq5,hr8,hc10⟩:=s4.ix hF
  obtain rfl:=qab hr8
  refine zxe hp5 hq5 he5 rfl (X0 3 rfl (zc 2 (hc10.below h.below) rfl (X0 5 rfl (zcB h hF qF rfl fun r4 w13 h hF=>X0 4 rfl (qf rfl hF ?_ ?_)))))<;>intro hF
  ·refine X0 4 rfl ?_
   obtain rfl:=qa hF;replace hF:=hK4
   exact rb h hF rfl
  exact X0 7 rfl (rK ⟨_,hF,rfl,h⟩ rfl)
 refine qq rfl ?_
 obtain rfl:=qa hF;replace hF:=hK4
 exact X0 4 rfl (rb h hF rfl)
def qcg (list:(List ByteArray)) (i1:Int):Nat→Int→Option (Flow Bool Int)
 | 0,_=>none
 | n+1,i2 =>
  bif decide (i2<i1) then
   (idx list i2).bind fun y2 =>
   (idx list i1).bind fun y3 =>
   bif (y2.toList==y3.toList) then some (.ret false) else
   qcg list i1 n (W64 (i2+1))
  else
   some (.nxt i2)
def qcm (list:(List ByteArray)):Nat→Int→Option (Flow Bool Int)
 | 0,_=>none
 | n+1,i1 =>
  bif decide (i1<(list.length:Int)) then
   (idx list i1).bind fun y1 =>
   (qel n y1).bind fun r1 =>
   bif (!r1) then some (.ret false) else
   (qcg list i1 n 0).bind fun o=>match o with
   | .ret r=>some (.ret r)
   | .nxt _ =>
    qcm list n (W64 (i1+1))
  else
   some (.nxt i1)
def qdJ (n:Nat) (list:(List ByteArray)):Option Bool :=
 (qcm list n 0).bind fun o=>match o with
 | .ret r=>some r
 | .nxt _ =>
  some true
theorem qfs {list:(List ByteArray)} (ha1:Ro w list cs1) {r:Bool} (hF:qdJ n list=some r):RetV Tryz.prog 135 [GoT.v (List ByteArray) cs1] w r:=by
 obtain ⟨p1,k1,rfl,s1⟩:=ha1
 refine zV 31 Tryz.func135 rfl fun h=>X0 9 rfl ?_
 obtain ⟨o1,hF,hK1⟩:=qe hF
 refine ql (rL (fun m e w'=>∃ (i1:Int),qcm list m i1=some o1∧e=[(0,.slice p1 list.length k1),(3,.int .i64 i1)]∧SH w w' []) n ⟨_,hF,rfl,h⟩ rfl ?_)
 rintro m1 e1 w1 ⟨i1,hF,rfl,h⟩
 rcases m1 with _|m1
 ·cases hF
 refine X0 8 rfl (qf rfl hF ?_ ?_)<;>intro hF
 ·refine X0 8 rfl ?_
  obtain ⟨y1,hy1,hF,he1,b1,_,q1,cs2,hp1,hq1,rfl,hc2⟩:=s1.ix hF
  refine zxe hp1 hq1 he1 rfl (zc 0 (hc2.below h.below) rfl (zcB h hF qf1 rfl fun r1 w2 h hF=>X0 2 rfl (qf rfl hF ?_ ?_)))<;>intro hF
  ·refine X0 4 rfl ?_
   obtain rfl:=qa hF;replace hF:=hK1
   exact rb h hF rfl
  refine X0 5 rfl ?_
  obtain ⟨o2,hF,hK2⟩:=qe hF
  refine ql (rL (fun m e w'=>∃ (i2:Int),qcg list i1 m i2=some o2∧e=[(0,.slice p1 list.length k1),(3,.int .i64 i1),(4,.int .i64 i2)]∧SH w w' []) m1 ⟨_,hF,rfl,h⟩ rfl ?_)
  rintro m2 e2 w3 ⟨i2,hF,rfl,h⟩
  rcases m2 with _|m2
  ·cases hF
  refine X0 7 rfl (qf rfl hF ?_ ?_)<;>intro hF
  ·refine X0 4 rfl (rD (zd2 rfl ?_))
   obtain ⟨y2,hy2,hF,he2,b2,_,q2,cs3,hp2,hq2,rfl,hc5⟩:=s1.ix hF
   refine zdxe hp2 hq2 he2 rfl (zdc 0 (hc5.below h.below) rfl (zd2 rfl ?_))
   obtain ⟨y3,hy3,hF,he3,b3,_,q3,cs4,hp3,hq3,rfl,hc6⟩:=s1.ix hF
   refine zdxe hp3 hq3 he3 rfl (zdc 0 (hc6.below h.below) rfl (zd1 rfl (dN h fun w4 h=>qf rfl hF ?_ ?_)))<;>intro hF
   ·refine X0 4 rfl ?_
    obtain rfl:=qa hF;replace hF:=hK2
    obtain rfl:=qa hF;replace hF:=hK1
    exact rb h hF rfl
   exact X0 7 rfl (rK ⟨_,hF,rfl,h⟩ rfl)
  refine qq rfl ?_
  obtain rfl:=qa hF;replace hF:=hK2
  exact X0 6 rfl (rK ⟨_,hF,rfl,h⟩ rfl)
 refine qq rfl ?_
 obtain rfl:=qa hF;replace hF:=hK1
 exact X0 4 rfl (rb h hF rfl)
def qci (x5:(List Int)) (x7:(List Int)):Nat→Int→Option (Flow Bool Int)
 | 0,_=>none
 | n+1,i5 =>
  bif decide (i5<(x5.length:Int)) then
   (idx x7 i5).bind fun y11 =>
   bif (y11 != 1) then some (.ret false) else
   qci x5 x7 n (W64 (i5+1))
  else
   some (.nxt i5)
def qbb (a_1:qb):Nat→(List Int)→Int→Option ((List Int) × Int)
 | 0,_,_=>none
 | n+1,x7,i4 =>
  bif decide (i4<(a_1.Ac.length:Int)) then
   (idx a_1.Ac i4).bind fun y7 =>
   bif (y7.Bl==1) then
    (idx a_1.Ac i4).bind fun y8 =>
    (idx x7 y8.Bm).bind fun y9 =>
    (idx x7 y8.Bm).bind fun _ =>
    qbb a_1 n (setS x7 y8.Bm (W64 (y9+1))) (W64 (i4+1))
   else
    qbb a_1 n x7 (W64 (i4+1))
  else
   some (x7,i4)
def qbD (a_1:qb):Nat→(List Int)→Int→Option ((List Int) × Int)
 | 0,_,_=>none
 | n+1,x6,i3 =>
  bif decide (i3<(a_1.Aa.length:Int)) then
   (idx a_1.Aa i3).bind fun y3 =>
   (idx y3.Af (W64 ((y3.Af.length:Int)-1))).bind fun y4 =>
   (idx x6 y4).bind fun y5 =>
   (idx x6 y4).bind fun _ =>
   qbD a_1 n (setS x6 y4 (W64 (y5+1))) (W64 (i3+1))
  else
   some (x6,i3)
def qbB (a_1:qb):Nat→(List ByteArray)→Int→Option ((List ByteArray) × Int)
 | 0,_,_=>none
 | n+1,x3,i2 =>
  bif decide (i2<(a_1.Ac.length:Int)) then
   (idx a_1.Ac i2).bind fun y2 =>
   (appS x3 ([y2.Am]:List ByteArray)).bind fun x4 =>
   qbB a_1 n x4 (W64 (i2+1))
  else
   some (x3,i2)
def qbG (a_1:qb):Nat→(List ByteArray)→Int→Option ((List ByteArray) × Int)
 | 0,_,_=>none
 | n+1,x1,i1 =>
  bif decide (i1<(a_1.Aa.length:Int)) then
   (idx a_1.Aa i1).bind fun y1 =>
   (appS x1 ([y1.Am]:List ByteArray)).bind fun x2 =>
   qbG a_1 n x2 (W64 (i1+1))
  else
   some (x1,i1)
def qeG (n:Nat) (a_0:qh) (a_1:qb):Option Bool :=
 (
  (qfa n a_0).bind fun r4 =>
  bif (!r4) then some true else
  bif decide ((a_1.Aa.length:Int) > 14) then some true else
  bif decide ((a_1.Af.length:Int) > 30) then some true else
  bif decide ((a_1.Ac.length:Int) > 8) then some true else
  (qft n a_0 a_1).bind fun r5 =>
  some (!r5)).bind fun b1 =>
 bif b1 then some false else
 (qbG a_1 n ([]:List ByteArray) 0).bind fun o=>match o with
 | (x1,_) =>
  (qbB a_1 n ([]:List ByteArray) 0).bind fun o=>match o with
  | (x3,_) =>
   (
    (qdJ n x1).bind fun r1 =>
    bif (!r1) then some true else
    (qdJ n x3).bind fun r2 =>
    bif (!r2) then some true else
    (qdJ n a_1.Af).bind fun r3 =>
    some (!r3)).bind fun b4 =>
   bif b4 then some false else
   (mkS (a_1.Af.length:Int) (0:Int)).bind fun x5 =>
   (qbD a_1 n x5 0).bind fun o=>match o with
   | (x6,_) =>
    (qbb a_1 n x6 0).bind fun o=>match o with
    | (x7,_) =>
     (qci x5 x7 n 0).bind fun o=>match o with
     | .ret r=>some r
     | .nxt _ =>
      some true
theorem qhp {a_0:qh} {a_1:qb} (ha1:Ro w a_0 cs1) (ha2:Ro w a_1 cs2) {r:Bool} (hF:qeG n a_0 a_1=some r):RetV Tryz.prog 88 [GoT.v qh cs1,GoT.v qb cs2] w r:=by
 obtain ⟨p1,k1,rfl,s1⟩:=qZ ha1
 obtain ⟨p2,k2,p3,k3,p4,k4,rfl,s2,s3,s4⟩:=qK ha2
 refine zV 153 Tryz.func88 rfl fun h=>zSR (qr h rfl rfl fun w1 bb1 h=>qr h rfl rfl fun w2 bb2 h=>X0 4 rfl ?_)
 obtain ⟨KF2,hKF2,o7,hF,hK7⟩:=bindE hF
 refine qcX (fun e w'=>∃ (b1:Bool),KF2 b1=some r∧e=[(3,.pointer (some ⟨bb2,0,none⟩)),(40,.bool b1)]∧SH w w' [Ch.box bb2 (qav a_1 p2 p3 p4 k2 k3 k4) 45]) ?_ ?_
 ·refine X1 2 1 h rfl (zcB h hF (qje (h.old ha1)) rfl fun r4 w21 h hF=>zp2 rfl (qg (t:=17) hF rfl ?_ ?_))<;>intro hF
  ·refine X0 24 rfl ?_
   replace h:=h.pick [0] rfl
   obtain rfl:=qa hF
   exact rG ⟨_,hK7,rfl,h⟩ rfl
  refine X1 10 0 h rfl (qg (t:=23) hF rfl ?_ ?_)<;>intro hF
  ·refine X0 18 rfl ?_
   replace h:=h.pick [0] rfl
   obtain rfl:=qa hF
   exact rG ⟨_,hK7,rfl,h⟩ rfl
  refine X1 10 0 h rfl (qg (t:=29) hF rfl ?_ ?_)<;>intro hF
  ·refine X0 12 rfl ?_
   replace h:=h.pick [0] rfl
   obtain rfl:=qa hF
   exact rG ⟨_,hK7,rfl,h⟩ rfl
  refine X1 10 0 h rfl (qg (t:=35) hF rfl ?_ ?_)<;>intro hF
  ·refine X0 6 rfl ?_
   replace h:=h.pick [0] rfl
   obtain rfl:=qa hF
   exact rG ⟨_,hK7,rfl,h⟩ rfl
  refine X2 5 1 0 h rfl (zcB h hF (qjl (h.old ha1) (h.old ha2)) rfl fun r5 w22 h hF=>X0 4 rfl ?_)
  replace h:=h.pick [0] rfl
  obtain rfl:=qa hF
  exact rG ⟨_,hK7,rfl,h⟩ rfl
 rintro e7 w23 ⟨b1,hF,rfl,h⟩
 subst hKF2
 refine qf rfl hF ?_ ?_<;>intro hF
 ·exact X0 4 rfl (rb h hF rfl)
 refine zKSR (qT qc [] _ ([]:List ByteArray) h rfl rfl rfl rfl rfl rfl rfl rfl rfl trivial rfl fun w3 p5 S1 h=>X0 7 rfl ?_)
 obtain ⟨o1,hF,hK1⟩:=qe hF
 refine ql (rL (fun m e w'=>∃ (S2:Nat→Prop) (p6:Option Addr) (ln1:Nat) (k5:Nat) (x1:(List ByteArray)) (i1:Int),qbG a_1 m x1 i1=some o1∧e=[(3,.pointer (some ⟨bb2,0,none⟩)),(5,.slice p6 ln1 k5),(6,.int .i64 i1)]∧SH w w' [Ch.own S2 (x1:List ByteArray) [.slice p6 ln1 k5],Ch.box bb2 (qav a_1 p2 p3 p4 k2 k3 k4) 45]) n ⟨_,_,_,_,_,_,hF,rfl,h⟩ rfl ?_)
 rintro m1 e1 w4 ⟨S2,p6,ln1,k5,x1,i1,hF,rfl,h⟩
 obtain rfl:=(h.sl 0 rfl).2
 rcases m1 with _|m1
 ·cases hF
 refine X1 9 1 h rfl (qf rfl hF ?_ ?_)<;>intro hF
 ·refine X1 8 1 h rfl ?_
  obtain ⟨y1,hy1,hF,he1,b2,_,q1,cs3,hp1,hq1,hr1,hc3⟩:=s2.ix hF
  obtain ⟨p7,k6,rfl,s5⟩:=qA hr1
  refine zxe hp1 hq1 he1 rfl (zp1 rfl (zc 0 (hc3.below h.below) rfl (qT qc [.tmp 55] _ ([y1.Am]:List ByteArray) h rfl rfl rfl rfl rfl rfl rfl rfl rfl ⟨rfl,trivial⟩ rfl fun w5 p8 S3 h=>?_)))
  obtain ⟨x2,hx1,hF⟩:=qe hF
  obtain ⟨g1,hx1⟩:=qaP hx1
  refine qdO qc 1 h rfl (h.sl 0 rfl).1 (h.sl 0 rfl).2 rfl rfl rfl rfl rfl rfl rfl rfl rfl g1 hx1 rfl fun w6 p9 k7 S4 h=>X0 8 rfl ?_
  replace h:=h.pick [1,2] rfl
  exact rK ⟨_,_,_,_,_,_,hF,rfl,h⟩ rfl
 refine qq rfl ?_
 obtain rfl:=qa hF;replace hF:=hK1
 refine zSR (qT qc [] _ ([]:List ByteArray) h rfl rfl rfl rfl rfl rfl rfl rfl rfl trivial rfl fun w7 p10 S5 h=>X0 7 rfl ?_)
 obtain ⟨o2,hF,hK2⟩:=qe hF
 refine ql (rL (fun m e w'=>∃ (S6:Nat→Prop) (p11:Option Addr) (ln2:Nat) (k8:Nat) (x3:(List ByteArray)) (i2:Int),qbB a_1 m x3 i2=some o2∧e=[(3,.pointer (some ⟨bb2,0,none⟩)),(5,.slice p6 x1.length k5),(7,.slice p11 ln2 k8),(8,.int .i64 i2)]∧SH w w' [Ch.own S6 (x3:List ByteArray) [.slice p11 ln2 k8],Ch.own S2 (x1:List ByteArray) [.slice p6 x1.length k5],Ch.box bb2 (qav a_1 p2 p3 p4 k2 k3 k4) 45]) n ⟨_,_,_,_,_,_,hF,rfl,h⟩ rfl ?_)
 rintro m2 e2 w8 ⟨S6,p11,ln2,k8,x3,i2,hF,rfl,h⟩
 obtain rfl:=(h.sl 0 rfl).2
 rcases m2 with _|m2
 ·cases hF
 refine X1 9 2 h rfl (qf rfl hF ?_ ?_)<;>intro hF
 ·refine X1 8 2 h rfl ?_
  obtain ⟨y2,hy2,hF,he2,b3,_,q2,cs4,hp2,hq2,hr2,hc5⟩:=s4.ix hF
  obtain rfl:=qab hr2
  refine zxe hp2 hq2 he2 rfl (zp1 rfl (zc 0 (hc5.below h.below) rfl (qT qc [.tmp 72] _ ([y2.Am]:List ByteArray) h rfl rfl rfl rfl rfl rfl rfl rfl rfl ⟨rfl,trivial⟩ rfl fun w9 p12 S7 h=>?_)))
  obtain ⟨x4,hx2,hF⟩:=qe hF
  obtain ⟨g2,hx2⟩:=qaP hx2
  refine qdO qc 1 h rfl (h.sl 0 rfl).1 (h.sl 0 rfl).2 rfl rfl rfl rfl rfl rfl rfl rfl rfl g2 hx2 rfl fun w10 p13 k9 S8 h=>X0 8 rfl ?_
  replace h:=h.pick [1,2,3] rfl
  exact rK ⟨_,_,_,_,_,_,hF,rfl,h⟩ rfl
 refine qq rfl ?_
 obtain rfl:=qa hF;replace hF:=hK2
 refine zSS ?_
 obtain ⟨KF1,hKF1,o6,hF,hK6⟩:=bindE hF
 refine qcX (fun e w'=>∃ (b4:Bool),KF1 b4=some r∧e=[(3,.pointer (some ⟨bb2,0,none⟩)),(88,.bool b4)]∧SH w w' [Ch.box bb2 (qav a_1 p2 p3 p4 k2 k3 k4) 45]) ?_ ?_
 ·refine X0 2 rfl (zcB h hF (qfs (h.own 1 rfl)) rfl fun r1 w17 h hF=>zp2 rfl (qg (t:=78) hF rfl ?_ ?_))<;>intro hF
  ·refine X0 11 rfl ?_
   replace h:=h.pick [2] rfl
   obtain rfl:=qa hF
   exact rG ⟨_,hK6,rfl,h⟩ rfl
  refine X0 3 rfl (zcB h hF (qfs (h.own 0 rfl)) rfl fun r2 w18 h hF=>X0 4 rfl (qg (t:=83) hF rfl ?_ ?_))<;>intro hF
  ·refine X0 6 rfl ?_
   replace h:=h.pick [2] rfl
   obtain rfl:=qa hF
   exact rG ⟨_,hK6,rfl,h⟩ rfl
  refine X1 5 2 h rfl (zcB h hF (qfs ⟨_,_,rfl,(h.oldS s3)⟩) rfl fun r3 w19 h hF=>X0 4 rfl ?_)
  replace h:=h.pick [2] rfl
  obtain rfl:=qa hF
  exact rG ⟨_,hK6,rfl,h⟩ rfl
 rintro e6 w20 ⟨b4,hF,rfl,h⟩
 subst hKF1
 refine qf rfl hF ?_ ?_<;>intro hF
 ·exact X0 4 rfl (rb h hF rfl)
 refine X1 6 0 h rfl ?_
 obtain ⟨x5,hx3,hF⟩:=qe hF
 obtain ⟨g3,g4,hx3⟩:=qb6 hx3
 refine qc2 qc Int h rfl rfl rfl rfl rfl rfl rfl rfl rfl g3 g4 hx3 rfl fun w11 S9 p14 h=>X0 7 rfl ?_
 obtain ⟨o3,hF,hK3⟩:=qe hF
 refine ql (rL (fun m e w'=>∃ (x6:(List Int)) (i3:Int),qbD a_1 m x6 i3=some o3∧e=[(3,.pointer (some ⟨bb2,0,none⟩)),(9,.slice p14 x5.length x5.length),(10,.int .i64 i3)]∧SH w w' [Ch.own S9 (x6:List Int) [.slice p14 x5.length x5.length],Ch.box bb2 (qav a_1 p2 p3 p4 k2 k3 k4) 45]) n ⟨_,_,hF,rfl,h⟩ rfl ?_)
 rintro m3 e3 w12 ⟨x6,i3,hF,rfl,h⟩
 rcases m3 with _|m3
 ·cases hF
 refine X1 9 1 h rfl (qf rfl hF ?_ ?_)<;>intro hF
 ·refine X1 8 1 h rfl ?_
  obtain ⟨y3,hy3,hF,he3,b5,_,q3,cs5,hp3,hq3,hr3,hc8⟩:=s2.ix hF
  obtain ⟨p15,k10,rfl,s6⟩:=qA hr3
  refine zxe hp3 hq3 he3 rfl (zp1 rfl (zc 2 (hc8.below h.below) rfl (X0 8 rfl ?_)))
  obtain ⟨y4,hy4,hF,he4,b6,_,q4,cs6,hp4,hq4,rfl,hc9⟩:=s6.ix hF
  refine zxe hp4 hq4 he4 rfl (zc 0 (hc9.below h.below) rfl ?_)
  obtain ⟨y5,hy5,hF,he5,b7,_,q5,cs7,hp5,hq5,rfl,hc10⟩:=(h.sl 0 rfl).1.ix hF
  refine zx hp5 hq5 ⟨he5.1,qap he5.2.1 (h.sl 0 rfl).2⟩ rfl (zc 0 hc10 rfl (zp1 rfl ?_))
  obtain ⟨y6,hy6,hF,he6,b8,_,q6,cs8,hp6,hq6,rfl,hc11⟩:=(h.sl 0 rfl).1.ix hF
  exact zx hp6 hq6 ⟨he6.1,qap he6.2.1 (h.sl 0 rfl).2⟩ rfl (qdU qc 0 0 (W64 (y5+1)) h rfl hy6 hp6 hq6 rfl hc11 rfl rfl rfl rfl rfl rfl rfl fun w13 h=>X0 7 rfl (rK ⟨_,_,hF,rfl,h⟩ rfl))
 refine qq rfl ?_
 obtain rfl:=qa hF;replace hF:=hK3
 refine X0 5 rfl ?_
 obtain ⟨o4,hF,hK4⟩:=qe hF
 refine ql (rL (fun m e w'=>∃ (x7:(List Int)) (i4:Int),qbb a_1 m x7 i4=some o4∧e=[(3,.pointer (some ⟨bb2,0,none⟩)),(9,.slice p14 x5.length x5.length),(12,.int .i64 i4)]∧SH w w' [Ch.own S9 (x7:List Int) [.slice p14 x5.length x5.length],Ch.box bb2 (qav a_1 p2 p3 p4 k2 k3 k4) 45]) n ⟨_,_,hF,rfl,h⟩ rfl ?_)
 rintro m4 e4 w14 ⟨x7,i4,hF,rfl,h⟩
 rcases m4 with _|m4
 ·cases hF
 refine X1 9 1 h rfl (qf rfl hF ?_ ?_)<;>intro hF
 ·refine X1 8 1 h rfl ?_
  obtain ⟨y7,hy7,hF,he7,b9,_,q7,cs9,hp7,hq7,hr7,hc13⟩:=s4.ix hF
  obtain rfl:=qab hr7
  refine zxe hp7 hq7 he7 rfl (zp1 rfl (zc 1 (hc13.below h.below) rfl (X0 2 rfl (qf rfl hF ?_ ?_))))<;>intro hF
  ·refine X1 5 1 h rfl ?_
   obtain ⟨y8,hy8,hF,he8,b10,_,q8,cs10,hp8,hq8,hr8,hc15⟩:=s4.ix hF
   obtain rfl:=qab hr8
   refine zxe hp8 hq8 he8 rfl (zp1 rfl (zc 2 (hc15.below h.below) rfl ?_))
   obtain ⟨y9,hy9,hF,he9,b11,_,q9,cs11,hp9,hq9,rfl,hc16⟩:=(h.sl 0 rfl).1.ix hF
   refine zx hp9 hq9 ⟨he9.1,qap he9.2.1 (h.sl 0 rfl).2⟩ rfl (zc 0 hc16 rfl (zp1 rfl ?_))
   obtain ⟨y10,hy10,hF,he10,b12,_,q10,cs12,hp10,hq10,rfl,hc17⟩:=(h.sl 0 rfl).1.ix hF
   exact zx hp10 hq10 ⟨he10.1,qap he10.2.1 (h.sl 0 rfl).2⟩ rfl (qdU qc 0 0 (W64 (y9+1)) h rfl hy10 hp10 hq10 rfl hc17 rfl rfl rfl rfl rfl rfl rfl fun w15 h=>X0 7 rfl (rK ⟨_,_,hF,rfl,h⟩ rfl))
  exact X0 7 rfl (rK ⟨_,_,hF,rfl,h⟩ rfl)
 refine qq rfl ?_
 obtain rfl:=qa hF;replace hF:=hK4
 refine X0 5 rfl ?_
 obtain ⟨o5,hF,hK5⟩:=qe hF
 refine ql ?_
 replace h:=h.pick [0] rfl
 refine rL (fun m e w'=>∃ (i5:Int),qci x5 x7 m i5=some o5∧e=[(9,.slice p14 x5.length x5.length),(13,.int .i64 i5)]∧SH w w' [Ch.own S9 (x7:List Int) [.slice p14 x5.length x5.length]]) n ⟨_,hF,rfl,h⟩ rfl ?_
 rintro m5 e5 w16 ⟨i5,hF,rfl,h⟩
 rcases m5 with _|m5
 ·cases hF
 refine X0 8 rfl (qf rfl hF ?_ ?_)<;>intro hF
 ·refine X0 7 rfl ?_
  obtain ⟨y11,hy11,hF,he11,b13,_,q11,cs13,hp11,hq11,rfl,hc19⟩:=(h.sl 0 rfl).1.ix hF
  refine zx hp11 hq11 ⟨he11.1,qap he11.2.1 (h.sl 0 rfl).2⟩ rfl (zc 0 hc19 rfl (X0 2 rfl (qf rfl hF ?_ ?_)))<;>intro hF
  ·refine X0 4 rfl ?_
   obtain rfl:=qa hF;replace hF:=hK5
   exact rb h hF rfl
  exact X0 7 rfl (rK ⟨_,hF,rfl,h⟩ rfl)
 refine qq rfl ?_
 obtain rfl:=qa hF;replace hF:=hK5
 exact X0 4 rfl (rb h hF rfl)
def qc9 (a_0:qD):Nat→Int→Option (Flow Bool Int)
 | 0,_=>none
 | n+1,i2 =>
  bif decide (i2<(a_0.Bc.length:Int)) then
   (idx a_0.Bc i2).bind fun y7 =>
   (qO n y7 0 (W64 ((a_0.Ai.length:Int)-1))).bind fun r5 =>
   bif (!r5) then some (.ret false) else
   qc9 a_0 n (W64 (i2+1))
  else
   some (.nxt i2)
def qbn (a_0:qD):Nat→Int→Option (Flow Bool Int)
 | 0,_=>none
 | n+1,i1 =>
  bif decide (i1<(a_0.Ai.length:Int)) then
   (
    (idx a_0.Bj i1).bind fun y5 =>
    (qO n y5 0 500).bind fun r3 =>
    bif (!r3) then some true else
    (idx a_0.Bn i1).bind fun y6 =>
    (qO n y6 0 1000).bind fun r4 =>
    some (!r4)).bind fun b2 =>
   bif b2 then some (.ret false) else
   bif (i1==0) then
    (idx a_0.Ai i1).bind fun y1 =>
    bif (y1 != (-1)) then some (.ret false) else
    (idx a_0.Bn i1).bind fun y2 =>
    bif (y2 != 0) then some (.ret false) else
    bif decide (i1 > 0) then
     (idx a_0.Ai i1).bind fun y3 =>
     (qO n y3 0 (W64 (i1-1))).bind fun r1 =>
     bif (!r1) then some (.ret false) else
     qbn a_0 n (W64 (i1+1))
    else
     qbn a_0 n (W64 (i1+1))
   else
    bif decide (i1 > 0) then
     (idx a_0.Ai i1).bind fun y4 =>
     (qO n y4 0 (W64 (i1-1))).bind fun r2 =>
     bif (!r2) then some (.ret false) else
     qbn a_0 n (W64 (i1+1))
    else
     qbn a_0 n (W64 (i1+1))
  else
   some (.nxt i1)
def qgU (n:Nat) (a_0:qD) (a_1:Int):Option Bool :=
 (
  bif decide ((a_0.Ai.length:Int)<1) then some true else
  bif decide ((a_0.Ai.length:Int) > 8) then some true else
  bif ((a_0.Bn.length:Int) != (a_0.Ai.length:Int)) then some true else
  bif ((a_0.Bj.length:Int) != (a_0.Ai.length:Int)) then some true else
  some ((a_0.Bc.length:Int) != a_1)).bind fun b1 =>
 bif b1 then some false else
 (qbn a_0 n 0).bind fun o=>match o with
 | .ret r=>some r
 | .nxt _ =>
  (qc9 a_0 n 0).bind fun o=>match o with
  | .ret r=>some r
  | .nxt _ =>
   some true
theorem qkz {a_0:qD} {a_1:Int} (ha1:Ro w a_0 cs1) {r:Bool} (hF:qgU n a_0 a_1=some r):RetV Tryz.prog 89 [GoT.v qD cs1,.int .i64 a_1] w r:=by
 obtain ⟨p1,k1,p2,k2,p3,k3,p4,k4,rfl,s1,s2,s3,s4⟩:=qaL ha1
 refine zV 108 Tryz.func89 rfl fun h=>zSR (qr h rfl rfl fun w1 bb1 h=>X1 11 0 h rfl ?_)
 obtain ⟨KF2,hKF2,o4,hF,hK4⟩:=bindE hF
 refine qcX (fun e w'=>∃ (b1:Bool),KF2 b1=some r∧e=[(2,.pointer (some ⟨bb1,0,none⟩)),(5,.int .i64 (a_0.Ai.length:Int)),(37,.bool b1)]∧SH w w' [Ch.box bb1 (qeT a_0 p1 p2 p3 p4 k1 k2 k3 k4) 109]) ?_ ?_
 ·refine X0 4 rfl (qg (t:=13) hF rfl ?_ ?_)<;>intro hF
  ·refine X0 25 rfl ?_
   obtain rfl:=qa hF
   exact rG ⟨_,hK4,rfl,h⟩ rfl
  refine X0 6 rfl (qg (t:=17) hF rfl ?_ ?_)<;>intro hF
  ·refine X0 21 rfl ?_
   obtain rfl:=qa hF
   exact rG ⟨_,hK4,rfl,h⟩ rfl
  refine X1 12 0 h rfl (qg (t:=24) hF rfl ?_ ?_)<;>intro hF
  ·refine X0 14 rfl ?_
   obtain rfl:=qa hF
   exact rG ⟨_,hK4,rfl,h⟩ rfl
  refine X1 12 0 h rfl (qg (t:=31) hF rfl ?_ ?_)<;>intro hF
  ·refine X0 7 rfl ?_
   obtain rfl:=qa hF
   exact rG ⟨_,hK4,rfl,h⟩ rfl
  refine X1 12 0 h rfl ?_
  obtain rfl:=qa hF
  exact rG ⟨_,hK4,rfl,h⟩ rfl
 rintro e4 w10 ⟨b1,hF,rfl,h⟩
 subst hKF2
 refine qf rfl hF ?_ ?_<;>intro hF
 ·exact X0 4 rfl (rb h hF rfl)
 refine X0 6 rfl ?_
 obtain ⟨o1,hF,hK1⟩:=qe hF
 refine ql (rL (fun m e w'=>∃ (i1:Int),qbn a_0 m i1=some o1∧e=[(2,.pointer (some ⟨bb1,0,none⟩)),(5,.int .i64 (a_0.Ai.length:Int)),(6,.int .i64 i1)]∧SH w w' [Ch.box bb1 (qeT a_0 p1 p2 p3 p4 k1 k2 k3 k4) 109]) n ⟨_,hF,rfl,h⟩ rfl ?_)
 rintro m1 e1 w2 ⟨i1,hF,rfl,h⟩
 rcases m1 with _|m1
 ·cases hF
 refine X0 7 rfl (qf rfl hF ?_ ?_)<;>intro hF
 ·refine X0 5 rfl ?_
  obtain ⟨KF1,hKF1,o2,hF,hK2⟩:=bindE hF
  refine qcX (fun e w'=>∃ (b2:Bool),KF1 b2=some o1∧e=[(2,.pointer (some ⟨bb1,0,none⟩)),(5,.int .i64 (a_0.Ai.length:Int)),(6,.int .i64 i1),(58,.bool b2)]∧SH w w' [Ch.box bb1 (qeT a_0 p1 p2 p3 p4 k1 k2 k3 k4) 109]) ?_ ?_
  ·refine X1 4 0 h rfl ?_
   obtain ⟨y5,hy5,hF,he5,b7,_,q5,cs6,hp5,hq5,rfl,hc10⟩:=s3.ix hF
   refine zxe hp5 hq5 he5 rfl (zc 0 (hc10.below h.below) rfl (zcB h hF qF rfl fun r3 w5 h hF=>zp2 rfl (qg (t:=50) hF rfl ?_ ?_)))<;>intro hF
   ·refine X0 9 rfl ?_
    obtain rfl:=qa hF
    exact rG ⟨_,hK2,rfl,h⟩ rfl
   refine X1 7 0 h rfl ?_
   obtain ⟨y6,hy6,hF,he6,b8,_,q6,cs7,hp6,hq6,rfl,hc11⟩:=s2.ix hF
   refine zxe hp6 hq6 he6 rfl (X0 1 rfl (zc 0 (hc11.below h.below) rfl (X0 1 rfl (zcB h hF qF rfl fun r4 w6 h hF=>X0 4 rfl ?_))))
   obtain rfl:=qa hF
   exact rG ⟨_,hK2,rfl,h⟩ rfl
  rintro e2 w7 ⟨b2,hF,rfl,h⟩
  subst hKF1
  refine qf rfl hF ?_ ?_<;>intro hF
  ·refine X0 4 rfl ?_
   obtain rfl:=qa hF;replace hF:=hK1
   exact rb h hF rfl
  refine X0 6 rfl (qg (t:=61) hF rfl ?_ ?_)<;>intro hF
  ·refine X1 7 0 h rfl ?_
   obtain ⟨y1,hy1,hF,he1,b3,_,q1,cs2,hp1,hq1,rfl,hc4⟩:=s1.ix hF
   refine zxe hp1 hq1 he1 rfl (X0 1 rfl (zc 0 (hc4.below h.below) rfl (X0 4 rfl (qg (t:=68) hF rfl ?_ ?_))))<;>intro hF
   ·refine X0 25 rfl (qc3 rfl rfl (X0 4 rfl ?_))
    obtain rfl:=qa hF;replace hF:=hK1
    exact rb h hF rfl
   refine X1 7 0 h rfl ?_
   obtain ⟨y2,hy2,hF,he2,b4,_,q2,cs3,hp2,hq2,rfl,hc5⟩:=s2.ix hF
   refine zxe hp2 hq2 he2 rfl (X0 1 rfl (zc 0 (hc5.below h.below) rfl (X0 6 rfl (qg (t:=77) hF rfl ?_ ?_))))<;>intro hF
   ·refine X0 15 rfl (qc3 rfl rfl (X0 4 rfl ?_))
    obtain rfl:=qa hF;replace hF:=hK1
    exact rb h hF rfl
   refine X0 6 rfl (qg (t:=80) hF rfl ?_ ?_)<;>intro hF
   ·refine X1 7 0 h rfl ?_
    obtain ⟨y3,hy3,hF,he3,b5,_,q3,cs4,hp3,hq3,rfl,hc6⟩:=s1.ix hF
    refine zxe hp3 hq3 he3 rfl (X0 1 rfl (zc 0 (hc6.below h.below) rfl (X0 5 rfl (zcB h hF qF rfl fun r1 w3 h hF=>X0 6 rfl (qf rfl hF ?_ ?_)))))<;>intro hF
    ·refine X0 4 rfl ?_
     obtain rfl:=qa hF;replace hF:=hK1
     exact rb h hF rfl
    exact X0 7 rfl (rK ⟨_,hF,rfl,h⟩ rfl)
   exact X0 13 rfl (qem rfl rfl (X0 7 rfl (rK ⟨_,hF,rfl,h⟩ rfl)))
  refine X0 22 rfl (qg (t:=80) hF rfl ?_ ?_)<;>intro hF
  ·refine X1 7 0 h rfl ?_
   obtain ⟨y4,hy4,hF,he4,b6,_,q4,cs5,hp4,hq4,rfl,hc8⟩:=s1.ix hF
   refine zxe hp4 hq4 he4 rfl (X0 1 rfl (zc 0 (hc8.below h.below) rfl (X0 5 rfl (zcB h hF qF rfl fun r2 w4 h hF=>X0 6 rfl (qf rfl hF ?_ ?_)))))<;>intro hF
   ·refine X0 4 rfl ?_
    obtain rfl:=qa hF;replace hF:=hK1
    exact rb h hF rfl
   exact X0 7 rfl (rK ⟨_,hF,rfl,h⟩ rfl)
  exact X0 13 rfl (qem rfl rfl (X0 7 rfl (rK ⟨_,hF,rfl,h⟩ rfl)))
 refine qq rfl ?_
 obtain rfl:=qa hF;replace hF:=hK1
 refine X0 5 rfl ?_
 obtain ⟨o3,hF,hK3⟩:=qe hF
 refine ql (rL (fun m e w'=>∃ (i2:Int),qc9 a_0 m i2=some o3∧e=[(2,.pointer (some ⟨bb1,0,none⟩)),(5,.int .i64 (a_0.Ai.length:Int)),(7,.int .i64 i2)]∧SH w w' [Ch.box bb1 (qeT a_0 p1 p2 p3 p4 k1 k2 k3 k4) 109]) n ⟨_,hF,rfl,h⟩ rfl ?_)
 rintro m2 e3 w8 ⟨i2,hF,rfl,h⟩
 rcases m2 with _|m2
 ·cases hF
 refine X1 9 0 h rfl (qf rfl hF ?_ ?_)<;>intro hF
 ·refine X1 8 0 h rfl ?_
  obtain ⟨y7,hy7,hF,he7,b9,_,q7,cs8,hp7,hq7,rfl,hc13⟩:=s4.ix hF
  refine zxe hp7 hq7 he7 rfl (zc 0 (hc13.below h.below) rfl (zp2 rfl (zcB h hF qF rfl fun r5 w9 h hF=>X0 2 rfl (qf rfl hF ?_ ?_))))<;>intro hF
  ·refine X0 4 rfl ?_
   obtain rfl:=qa hF;replace hF:=hK3
   exact rb h hF rfl
  exact X0 7 rfl (rK ⟨_,hF,rfl,h⟩ rfl)
 refine qq rfl ?_
 obtain rfl:=qa hF;replace hF:=hK3
 exact X0 4 rfl (rb h hF rfl)
def qbm (i1:Int) (y1:qd):Nat→(List Tl05Place)→Int→Option ((List Tl05Place) × Int)
 | 0,_,_=>none
 | n+1,x2,i2 =>
  bif decide (i2<(y1.Af.length:Int)) then
   (idx y1.Af i2).bind fun y2 =>
   (appS x2 ([(⟨i1,i2,y2,(i2==(W64 ((y1.Af.length:Int)-1)))⟩:Tl05Place)]:List Tl05Place)).bind fun x3 =>
   qbm i1 y1 n x3 (W64 (i2+1))
  else
   some (x2,i2)
def qbd (a_0:qb):Nat→(List Tl05Place)→Int→Option ((List Tl05Place) × Int)
 | 0,_,_=>none
 | n+1,x4,i3 =>
  bif decide (i3<(a_0.Ac.length:Int)) then
   (idx a_0.Ac i3).bind fun y3 =>
   (idx a_0.Ac i3).bind fun y4 =>
   (appS x4 ([(⟨(-1),i3,y3.Bm,(y4.Bl==1)⟩:Tl05Place)]:List Tl05Place)).bind fun x5 =>
   qbd a_0 n x5 (W64 (i3+1))
  else
   some (x4,i3)
def qbf (a_0:qb):Nat→(List Tl05Place)→Int→Option ((List Tl05Place) × Int)
 | 0,_,_=>none
 | n+1,x1,i1 =>
  bif decide (i1<(a_0.Aa.length:Int)) then
   (idx a_0.Aa i1).bind fun y1 =>
   (qbm i1 y1 n x1 0).bind fun o=>match o with
   | (x2,_) =>
    qbf a_0 n x2 (W64 (i1+1))
  else
   some (x1,i1)
def qc8 (n:Nat) (a_0:qb):Option (List Tl05Place) :=
 (qbf a_0 n ([]:List Tl05Place) 0).bind fun o=>match o with
 | (x1,_) =>
  (qbd a_0 n x1 0).bind fun o=>match o with
  | (x4,_) =>
   some x4
theorem qfj {a_0:qb} (ha1:Ro w a_0 cs1) {r:(List Tl05Place)} (hF:qc8 n a_0=some r):RetV Tryz.prog 96 [GoT.v qb cs1] w r:=by
 obtain ⟨p1,k1,p2,k2,p3,k3,rfl,s1,s2,s3⟩:=qK ha1
 refine zV 69 Tryz.func96 rfl fun h=>zSR (qr h rfl rfl fun w1 bb1 h=>X0 4 rfl (qT qc [] _ ([]:List Tl05Place) h rfl rfl rfl rfl rfl rfl rfl rfl rfl trivial rfl fun w2 p4 S1 h=>X0 7 rfl ?_))
 obtain ⟨o1,hF,hK1⟩:=qe hF
 refine ql (rL (fun m e w'=>∃ (S2:Nat→Prop) (p5:Option Addr) (ln1:Nat) (k4:Nat) (x1:(List Tl05Place)) (i1:Int),qbf a_0 m x1 i1=some o1∧e=[(1,.pointer (some ⟨bb1,0,none⟩)),(3,.slice p5 ln1 k4),(4,.int .i64 i1)]∧SH w w' [Ch.own S2 (x1:List Tl05Place) [.slice p5 ln1 k4],Ch.box bb1 (qav a_0 p1 p2 p3 k1 k2 k3) 45]) n ⟨_,_,_,_,_,_,hF,rfl,h⟩ rfl ?_)
 rintro m1 e1 w3 ⟨S2,p5,ln1,k4,x1,i1,hF,rfl,h⟩
 obtain rfl:=(h.sl 0 rfl).2
 rcases m1 with _|m1
 ·cases hF
 refine X1 9 1 h rfl (qf rfl hF ?_ ?_)<;>intro hF
 ·refine X1 8 1 h rfl ?_
  obtain ⟨y1,hy1,hF,he1,b1,_,q1,cs2,hp1,hq1,hr1,hc2⟩:=s1.ix hF
  obtain ⟨p6,k5,rfl,s4⟩:=qA hr1
  refine zxe hp1 hq1 he1 rfl (zp1 rfl (zc 2 (hc2.below h.below) rfl (X0 6 rfl ?_)))
  obtain ⟨o2,hF,hK2⟩:=qe hF
  refine ql (rL (fun m e w'=>∃ (S3:Nat→Prop) (p7:Option Addr) (ln2:Nat) (k6:Nat) (x2:(List Tl05Place)) (i2:Int),qbm i1 y1 m x2 i2=some o2∧e=[(1,.pointer (some ⟨bb1,0,none⟩)),(3,.slice p7 ln2 k6),(4,.int .i64 i1),(5,.slice p6 y1.Af.length k5),(6,.int .i64 i2)]∧SH w w' [Ch.own S3 (x2:List Tl05Place) [.slice p7 ln2 k6],Ch.box bb1 (qav a_0 p1 p2 p3 k1 k2 k3) 45]) m1 ⟨_,_,_,_,_,_,hF,rfl,h⟩ rfl ?_)
  rintro m2 e2 w4 ⟨S3,p7,ln2,k6,x2,i2,hF,rfl,h⟩
  obtain rfl:=(h.sl 0 rfl).2
  rcases m2 with _|m2
  ·cases hF
  refine X0 8 rfl (qf rfl hF ?_ ?_)<;>intro hF
  ·refine X0 9 rfl ?_
   obtain ⟨y2,hy2,hF,he2,b2,_,q2,cs3,hp2,hq2,rfl,hc4⟩:=s4.ix hF
   refine zxe hp2 hq2 he2 rfl (zc 0 (hc4.below h.below) rfl (zp5 rfl (r_v (qeZ qc [0,1,2,3] [.tmp 29,.tmp 30,.tmp 34,.tmp 39] rfl rfl rfl rfl rfl rfl rfl rfl) rfl (qT qc [.tmp 40] _ ([(⟨i1,i2,y2,(i2==(W64 ((y1.Af.length:Int)-1)))⟩:Tl05Place)]:List Tl05Place) h rfl rfl rfl rfl rfl rfl rfl rfl rfl ⟨(qeC (⟨i1,i2,y2,(i2==(W64 ((y1.Af.length:Int)-1)))⟩:Tl05Place)),trivial⟩ rfl fun w5 p8 S4 h=>?_))))
   obtain ⟨x3,hx1,hF⟩:=qe hF
   obtain ⟨g1,hx1⟩:=qaP hx1
   refine qdO qc 1 h rfl (h.sl 0 rfl).1 (h.sl 0 rfl).2 rfl rfl rfl rfl rfl rfl rfl rfl rfl g1 hx1 rfl fun w6 p9 k7 S5 h=>X0 8 rfl ?_
   replace h:=h.pick [1,2] rfl
   exact rK ⟨_,_,_,_,_,_,hF,rfl,h⟩ rfl
  refine qq rfl ?_
  obtain rfl:=qa hF;replace hF:=hK2
  exact X0 6 rfl (rK ⟨_,_,_,_,_,_,hF,rfl,h⟩ rfl)
 refine qq rfl ?_
 obtain rfl:=qa hF;replace hF:=hK1
 refine X0 5 rfl ?_
 obtain ⟨o3,hF,hK3⟩:=qe hF
 refine ql (rL (fun m e w'=>∃ (S6:Nat→Prop) (p10:Option Addr) (ln3:Nat) (k8:Nat) (x4:(List Tl05Place)) (i3:Int),qbd a_0 m x4 i3=some o3∧e=[(1,.pointer (some ⟨bb1,0,none⟩)),(3,.slice p10 ln3 k8),(7,.int .i64 i3)]∧SH w w' [Ch.own S6 (x4:List Tl05Place) [.slice p10 ln3 k8],Ch.box bb1 (qav a_0 p1 p2 p3 k1 k2 k3) 45]) n ⟨_,_,_,_,_,_,hF,rfl,h⟩ rfl ?_)
 rintro m3 e3 w7 ⟨S6,p10,ln3,k8,x4,i3,hF,rfl,h⟩
 obtain rfl:=(h.sl 0 rfl).2
 rcases m3 with _|m3
 ·cases hF
 refine X1 9 1 h rfl (qf rfl hF ?_ ?_)<;>intro hF
 ·refine zKSB (rA [] [1] h rfl fun w8 h=>M1 31 [0,1,2,3,4] 0 (h.pick [1] rfl) rfl ?_)
  obtain ⟨y3,hy3,hF,he3,b3,_,q3,cs4,hp3,hq3,hr3,hc6⟩:=s3.ix hF
  obtain rfl:=qab hr3
  refine Ae 5 63 hp3 hq3 he3 (h.pick [1] rfl) rfl (M0 127 [6] (h.pick [1] rfl) rfl (Al 7 255 2 hc6 (h.pick [1] rfl) rfl (M1 2047 [8,9,10] 0 (h.pick [1] rfl) rfl ?_)))
  obtain ⟨y4,hy4,hF,he4,b4,_,q4,cs5,hp4,hq4,hr4,hc7⟩:=s3.ix hF
  obtain rfl:=qab hr4
  refine Ae 11 4095 hp4 hq4 he4 (h.pick [1] rfl) rfl (M0 8191 [12] (h.pick [1] rfl) rfl (Al 13 16383 1 hc7 (h.pick [1] rfl) rfl (M0 32767 [14] (h.pick [1] rfl) rfl (Aw 15 65535 (fun w' hw=>qeZ qc [0,1,2,3] [.const (.int .i64 (-1)),.tmp 51,.tmp 57,.tmp 64] rfl rfl rfl rfl rfl rfl rfl rfl) (h.pick [1] rfl) rfl ?_))))
  refine Ao 16 131071 rfl (qT qc [.tmp 65] _ ([(⟨(-1),i3,y3.Bm,(y4.Bl==1)⟩:Tl05Place)]:List Tl05Place) h rfl rfl rfl rfl rfl rfl rfl rfl rfl ⟨(qeC (⟨(-1),i3,y3.Bm,(y4.Bl==1)⟩:Tl05Place)),trivial⟩ rfl fun w9 p11 S7 h=>Ag (h.pick [2] rfl) (Ao 17 262143 rfl ?_))
  obtain ⟨x5,hx2,hF⟩:=qe hF
  obtain ⟨g2,hx2⟩:=qaP hx2
  refine qdO qc 1 h rfl (h.sl 0 rfl).1 (h.sl 0 rfl).2 rfl rfl rfl rfl rfl rfl rfl rfl rfl g2 hx2 rfl fun w10 p12 k9 S8 h=>G0 524287 [18] (h.pick [2] rfl) rfl (Ad (X0 6 rfl ?_))
  replace h:=h.pick [1,2] rfl
  exact rK ⟨_,_,_,_,_,_,hF,rfl,h⟩ rfl
 refine qq rfl ?_
 obtain rfl:=qa hF;replace hF:=hK3
 refine X0 5 rfl ?_
 obtain rfl:=qa hF
 exact rO 0 h rfl ⟨rfl,trivial⟩
def qa7 (net:Int) (r1:(List Tl05Place)):Nat→(List Int)→Int→Option ((List Int) × Int)
 | 0,_,_=>none
 | n+1,x1,i1 =>
  bif decide (i1<(r1.length:Int)) then
   (
    (idx r1 i1).bind fun y1 =>
    bif (y1.net==net) then
     (idx r1 i1).bind fun y2 =>
     some (!y2.drives)
    else
     some false).bind fun b1 =>
   bif b1 then
    (appS x1 ([i1]:List Int)).bind fun x2 =>
    qa7 net r1 n x2 (W64 (i1+1))
   else
    qa7 net r1 n x1 (W64 (i1+1))
  else
   some (x1,i1)
def qfD (n:Nat) (d:qb) (net:Int):Option (List Int) :=
 (qc8 n d).bind fun r1 =>
 (qa7 net r1 n ([]:List Int) 0).bind fun o=>match o with
 | (x1,_) =>
  some x1
theorem qjD {d:qb} {net:Int} (ha1:Ro w d cs1) {r:(List Int)} (hF:qfD n d net=some r):RetV Tryz.prog 90 [GoT.v qb cs1,.int .i64 net] w r:=by
 obtain ⟨p1,k1,p2,k2,p3,k3,rfl,s1,s2,s3⟩:=qK ha1
 refine zV 37 Tryz.func90 rfl fun h=>zSR (qr h rfl rfl fun w1 bb1 h=>X0 4 rfl (qT qc [] _ ([]:List Int) h rfl rfl rfl rfl rfl rfl rfl rfl rfl trivial rfl fun w2 p4 S1 h=>X1 5 1 h rfl (zcL h hF (qfj (h.old ha1)) rfl fun r1 w3 S2 p5 k4 h hF=>X0 7 rfl ?_)))
 obtain ⟨o1,hF,hK1⟩:=qe hF
 refine ql ?_
 replace h:=h.pick [0,1] rfl
 refine rL (fun m e w'=>∃ (S3:Nat→Prop) (p6:Option Addr) (ln1:Nat) (k5:Nat) (x1:(List Int)) (i1:Int),qa7 net r1 m x1 i1=some o1∧e=[(1,.int .i64 net),(5,.slice p6 ln1 k5),(6,.slice p5 r1.length k4),(7,.int .i64 i1)]∧SH w w' [Ch.own S2 (r1:List Tl05Place) [.slice p5 r1.length k4],Ch.own S3 (x1:List Int) [.slice p6 ln1 k5]]) n ⟨_,_,_,_,_,_,hF,rfl,h⟩ rfl ?_
 rintro m1 e1 w4 ⟨S3,p6,ln1,k5,x1,i1,hF,rfl,h⟩
 obtain rfl:=(h.sl 1 rfl).2
 rcases m1 with _|m1
 ·cases hF
 refine X0 8 rfl (qf rfl hF ?_ ?_)<;>intro hF
 ·refine X0 4 rfl ?_
  obtain ⟨KF1,hKF1,o2,hF,hK2⟩:=bindE hF
  refine qcX (fun e w'=>∃ (b1:Bool),KF1 b1=some o1∧e=[(1,.int .i64 net),(5,.slice p6 x1.length k5),(6,.slice p5 r1.length k4),(7,.int .i64 i1),(31,.bool b1)]∧SH w w' [Ch.own S2 (r1:List Tl05Place) [.slice p5 r1.length k4],Ch.own S3 (x1:List Int) [.slice p6 x1.length k5]]) ?_ ?_
  ·refine X0 3 rfl ?_
   obtain ⟨y1,hy1,hF,he1,b2,_,q1,cs2,hp1,hq1,hr2,hc3⟩:=(h.sl 0 rfl).1.ix hF
   obtain rfl:=qeb hr2
   refine zx hp1 hq1 ⟨he1.1,qap he1.2.1 (h.sl 0 rfl).2⟩ rfl (zp1 rfl (zc 2 hc3 rfl (zp3 rfl (qg (t:=24) hF rfl ?_ ?_))))<;>intro hF
   ·refine X0 5 rfl ?_
    obtain ⟨y2,hy2,hF,he2,b3,_,q2,cs3,hp2,hq2,hr3,hc4⟩:=(h.sl 0 rfl).1.ix hF
    obtain rfl:=qeb hr3
    refine zx hp2 hq2 ⟨he2.1,qap he2.2.1 (h.sl 0 rfl).2⟩ rfl (X0 3 rfl (zc 3 hc4 rfl (X0 4 rfl ?_)))
    obtain rfl:=qa hF
    exact rG ⟨_,hK2,rfl,h⟩ rfl
   refine X0 8 rfl ?_
   obtain rfl:=qa hF
   exact rG ⟨_,hK2,rfl,h⟩ rfl
  rintro e2 w7 ⟨b1,hF,rfl,h⟩
  subst hKF1
  refine qf rfl hF ?_ ?_<;>intro hF
  ·refine X0 3 rfl (qT qc [.tmp 33] _ ([i1]:List Int) h rfl rfl rfl rfl rfl rfl rfl rfl rfl ⟨rfl,trivial⟩ rfl fun w5 p7 S4 h=>?_)
   obtain ⟨x2,hx1,hF⟩:=qe hF
   obtain ⟨g1,hx1⟩:=qaP hx1
   refine qdO qc 2 h rfl (h.sl 0 rfl).1 (h.sl 0 rfl).2 rfl rfl rfl rfl rfl rfl rfl rfl rfl g1 hx1 rfl fun w6 p8 k6 S5 h=>X0 8 rfl ?_
   replace h:=h.pick [1,2] rfl
   exact rK ⟨_,_,_,_,_,_,hF,rfl,h⟩ rfl
  exact X0 7 rfl (rK ⟨_,_,_,_,_,_,hF,rfl,h⟩ rfl)
 refine qq rfl ?_
 obtain rfl:=qa hF;replace hF:=hK1
 refine X0 5 rfl ?_
 obtain rfl:=qa hF
 exact rO 1 h rfl ⟨rfl,trivial⟩
def qcM (b:qm):Nat→Int→Option (Flow Bool Int)
 | 0,_=>none
 | n+1,i1 =>
  bif decide (i1<(b.Ah.length:Int)) then
   (idx b.Ah i1).bind fun y1 =>
   (qfD n (⟨b.Ab.Aa,b.Ab.Af,b.Ab.Ac⟩:qb) i1).bind fun r1 =>
   (qgU n y1 (r1.length:Int)).bind fun r2 =>
   bif (!r2) then some (.ret false) else
   qcM b n (W64 (i1+1))
  else
   some (.nxt i1)
def qgc (n:Nat) (b:qm):Option Bool :=
 (
  (qeG n (⟨b.Aq.Aj⟩:qh) (⟨b.Ab.Aa,b.Ab.Af,b.Ab.Ac⟩:qb)).bind fun r3 =>
  bif (!r3) then some true else
  some ((b.Ah.length:Int) != (b.Ab.Af.length:Int))).bind fun b1 =>
 bif b1 then some false else
 (qcM b n 0).bind fun o=>match o with
 | .ret r=>some r
 | .nxt _ =>
  some true
theorem qjQ {b:qm} (ha1:Ro w b cs1) {r:Bool} (hF:qgc n b=some r):RetV Tryz.prog 45 [GoT.v qm cs1] w r:=by
 obtain ⟨p1,k1,p2,k2,p3,k3,p4,k4,p5,k5,rfl,s1,s2,s3,s4,s5⟩:=qU ha1
 refine zV 39 Tryz.func45 rfl fun h=>zSR (qr h rfl rfl fun w1 bb1 h=>X0 4 rfl ?_)
 obtain ⟨KF1,hKF1,o2,hF,hK2⟩:=bindE hF
 refine qcX (fun e w'=>∃ (b1:Bool),KF1 b1=some r∧e=[(1,.pointer (some ⟨bb1,0,none⟩)),(19,.bool b1)]∧SH w w' [Ch.box bb1 (qb5 b p1 p2 p3 p4 p5 k1 k2 k3 k4 k5) 48]) ?_ ?_
 ·refine X2 5 0 0 h rfl (zcB h hF (qhp (qbk _ (h.oldS s1)) (qar _ (h.oldS s2) (h.oldS s3) (h.oldS s4))) rfl fun r3 w6 h hF=>zp2 rfl (qg (t:=10) hF rfl ?_ ?_))<;>intro hF
  ·refine X0 10 rfl ?_
   obtain rfl:=qa hF
   exact rG ⟨_,hK2,rfl,h⟩ rfl
  refine X2 18 0 0 h rfl ?_
  obtain rfl:=qa hF
  exact rG ⟨_,hK2,rfl,h⟩ rfl
 rintro e2 w7 ⟨b1,hF,rfl,h⟩
 subst hKF1
 refine qf rfl hF ?_ ?_<;>intro hF
 ·exact X0 4 rfl (rb h hF rfl)
 refine X0 6 rfl ?_
 obtain ⟨o1,hF,hK1⟩:=qe hF
 refine ql (rL (fun m e w'=>∃ (i1:Int),qcM b m i1=some o1∧e=[(1,.pointer (some ⟨bb1,0,none⟩)),(3,.int .i64 i1)]∧SH w w' [Ch.box bb1 (qb5 b p1 p2 p3 p4 p5 k1 k2 k3 k4 k5) 48]) n ⟨_,hF,rfl,h⟩ rfl ?_)
 rintro m1 e1 w2 ⟨i1,hF,rfl,h⟩
 rcases m1 with _|m1
 ·cases hF
 refine X1 9 0 h rfl (qf rfl hF ?_ ?_)<;>intro hF
 ·refine X0 4 rfl (rA [] [0] h rfl fun w3 h=>M1 7 [0,1,2] 0 (h.pick [0] rfl) rfl ?_)
  obtain ⟨y1,hy1,hF,he1,b2,_,q1,cs2,hp1,hq1,hr1,hc3⟩:=s5.ix hF
  obtain ⟨p6,k6,p7,k7,p8,k8,p9,k9,rfl,s6,s7,s8,s9⟩:=qaL hr1
  refine Ae 3 15 hp1 hq1 he1 (h.pick [0] rfl) rfl (Al 4 31 0 hc3 (h.pick [0] rfl) rfl (M1 255 [5,6,7] 0 (h.pick [0] rfl) rfl (Ao 8 511 rfl (zcL h hF (qjD (qar _ (h.oldS s2) (h.oldS s3) (h.oldS s4))) rfl fun r1 w4 S1 p10 k10 h hF=>G0 1023 [9] (h.pick [1] rfl) rfl (Ao 10 2047 rfl (zcB h hF (qkz (qgu y1 (h.oldS s6) (h.oldS s7) (h.oldS s8) (h.oldS s9))) rfl fun r2 w5 h hF=>G0 4095 [11] (h.pick [1] rfl) rfl (Ad (qf rfl hF ?_ ?_))))))))<;>intro hF
  ·refine X0 4 rfl ?_
   obtain rfl:=qa hF;replace hF:=hK1
   exact rb h hF rfl
  refine X0 7 rfl ?_
  replace h:=h.pick [1] rfl
  exact rK ⟨_,hF,rfl,h⟩ rfl
 refine qq rfl ?_
 obtain rfl:=qa hF;replace hF:=hK1
 exact X0 4 rfl (rb h hF rfl)
def qY (_:Nat) (x:Int) (low:Int) (high:Int):Option Bool :=
 bif decide (x ≥ low) then some (decide (x≤high)) else
 some false
theorem qP {x:Int} {low:Int} {high:Int}  {r:Bool} (hF:qY n x low high=some r):RetV Tryz.prog 115 [.int .i64 x,.int .i64 low,.int .i64 high] w r:=by
 refine zV 15 Tryz.func115 rfl fun h=>X0 10 rfl (qg (t:=10) hF rfl ?_ ?_)<;>intro hF
 ·exact X0 9 rfl (rb h hF rfl)
 exact X0 6 rfl (rb h hF rfl)
def qff (_:Nat) (s cutset:ByteArray):Option ByteArray :=
 if s.size≤9223372036854775807∧cutset.size<4294967281∧cutset.data.toList.all (fun b=>decide (b.toNat<128))=true then some ⟨(Lib.trimS s.data.toList cutset.data.toList).toArray⟩ else none
theorem qj4 {s cutset:ByteArray} {r:ByteArray} (hF:qff n s cutset=some r):RetV Tryz.prog 212 [.string s,.string cutset] w r:=by
 unfold qff at hF
 split at hF
 ·rename_i hh
  obtain rfl:=qa hF
  refine (Tryz.strings_Trim_any s cutset w hh.1 hh.2.1 hh.2.2).mono ?_
  rintro e w' ⟨rfl,hB⟩
  exact ⟨_,rfl,hB,[.string _],rfl,qdr _ _⟩
 cases hF
def qdY (_:Nat) (s:ByteArray) (c:(IntK .u8)):Option Int :=
 some (Lib.indexByte s.data.toList c.val.toNat.toUInt8)
theorem qhX {s:ByteArray} {c:(IntK .u8)} {r:Int} (hF:qdY n s c=some r):RetV Tryz.prog 213 [.string s,.int .u8 c.val] w r:=by
 obtain rfl:=qa hF
 refine (Tryz.strings_IndexByte s c.val w).mono ?_
 rintro e w' ⟨rfl,rfl⟩
 exact ⟨_,rfl,Below.refl _ _,[.int .i64 _],rfl,qoZ _ _⟩
def qfL (n:Nat) (s:ByteArray):Option Bool :=
 (qY n (s.size:Int) 1 8).bind fun r1 =>
 bif r1 then
  (qff n s (⟨#[97,98,99,100,101,102,103,104,105,106,107,108,109,110,111,112,113,114,115,116,117,118,119,120,121,122,48,49,50,51,52,53,54,55,56,57]⟩:ByteArray)).bind fun r2 =>
  bif (r2.toList==(⟨#[]⟩:ByteArray).toList) then
   (atS s 0).bind fun y1 =>
   (qdY n (⟨#[97,98,99,100,101,102,103,104,105,106,107,108,109,110,111,112,113,114,115,116,117,118,119,120,121,122]⟩:ByteArray) (⟨y1⟩:IntK .u8)).bind fun r3 =>
   some (decide (r3 ≥ 0))
  else
   some false
 else
  some false
theorem qij {s:ByteArray}  {r:Bool} (hF:qfL n s=some r):RetV Tryz.prog 177 [.string s] w r:=by
 refine zV 17 Tryz.func177 rfl fun h=>X0 8 rfl (zcB h hF qP rfl fun r1 w1 h hF=>zp1 rfl (qg (t:=6) hF rfl ?_ ?_))<;>intro hF
 ·refine X0 3 rfl (zcS h hF qj4 rfl fun r2 w2 h hF=>X0 4 rfl (qg (t:=11) hF rfl ?_ ?_))<;>intro hF
  ·refine X0 3 rfl ?_
   obtain ⟨y1,hx1,hF⟩:=qe hF
   have g1:=qh9 hx1
   exact r_v (qhR qc g1 rfl rfl rfl rfl) rfl (X0 1 rfl (zcI h hF qhX rfl fun r3 w3 h hF=>X0 5 rfl (rb h hF rfl)))
  exact X0 7 rfl (rb h hF rfl)
 exact X0 12 rfl (rb h hF rfl)
def qaW (s:(List ByteArray)) (v:ByteArray):Nat→Int→Option (Flow Int Int)
 | 0,_=>none
 | n+1,i1 =>
  bif decide (i1<(s.length:Int)) then
   (idx s i1).bind fun y1 =>
   bif (v.toList==y1.toList) then some (.ret i1) else
   qaW s v n (W64 (i1+1))
  else
   some (.nxt i1)
def qc5 (n:Nat) (s:(List ByteArray)) (v:ByteArray):Option Int :=
 (qaW s v n 0).bind fun o=>match o with
 | .ret r=>some r
 | .nxt _ =>
  some (-1)
theorem qhA {s:(List ByteArray)} {v:ByteArray} (ha1:Ro w s cs1) {r:Int} (hF:qc5 n s v=some r):RetV Tryz.prog 92 [GoT.v (List ByteArray) cs1,.string v] w r:=by
 obtain ⟨p1,k1,rfl,s1⟩:=ha1
 refine zV 19 Tryz.func92 rfl fun h=>X0 11 rfl ?_
 obtain ⟨o1,hF,hK1⟩:=qe hF
 refine ql (rL (fun m e w'=>∃ (i1:Int),qaW s v m i1=some o1∧e=[(0,.slice p1 s.length k1),(1,.string v),(7,.int .i64 (s.length:Int)),(8,.int .i64 i1)]∧SH w w' []) n ⟨_,hF,rfl,h⟩ rfl ?_)
 rintro m1 e1 w1 ⟨i1,hF,rfl,h⟩
 rcases m1 with _|m1
 ·cases hF
 refine X0 5 rfl (qf rfl hF ?_ ?_)<;>intro hF
 ·refine X0 13 rfl ?_
  obtain ⟨y1,hy1,hF,he1,b1,_,q1,cs2,hp1,hq1,rfl,hc2⟩:=s1.ix hF
  refine zxe hp1 hq1 he1 rfl (zc 0 (hc2.below h.below) rfl (X0 2 rfl (qf rfl hF ?_ ?_)))<;>intro hF
  ·refine X0 5 rfl ?_
   obtain rfl:=qa hF;replace hF:=hK1
   exact ri h hF rfl
  exact X0 6 rfl (rK ⟨_,hF,rfl,h⟩ rfl)
 refine qq rfl ?_
 obtain rfl:=qa hF;replace hF:=hK1
 exact X0 4 rfl (ri h hF rfl)
def qcc (n:Nat) (s:(List ByteArray)) (v:ByteArray):Option Bool :=
 (qc5 n s v).bind fun r1 =>
 some (decide (r1 ≥ 0))
theorem qgQ {s:(List ByteArray)} {v:ByteArray} (ha1:Ro w s cs1) {r:Bool} (hF:qcc n s v=some r):RetV Tryz.prog 181 [GoT.v (List ByteArray) cs1,.string v] w r:=by
 obtain ⟨p1,k1,rfl,s1⟩:=ha1
 exact zV 9 Tryz.func181 rfl fun h=>X0 8 rfl (zcI h hF (qhA ⟨_,_,rfl,(h.oldS s1)⟩) rfl fun r1 w1 h hF=>X0 3 rfl (rb h hF rfl))
def qcn (list:(List ByteArray)):Nat→Int→Option (Flow Bool Int)
 | 0,_=>none
 | n+1,i1 =>
  bif decide (i1<(list.length:Int)) then
   (idx list i1).bind fun y1 =>
   (qfL n y1).bind fun r1 =>
   bif (!r1) then some (.ret false) else
   (subS list 0 i1).bind fun x1 =>
   (qcc n x1 y1).bind fun r2 =>
   bif r2 then some (.ret false) else
   qcn list n (W64 (i1+1))
  else
   some (.nxt i1)
def qce (n:Nat) (list:(List ByteArray)):Option Bool :=
 (qcn list n 0).bind fun o=>match o with
 | .ret r=>some r
 | .nxt _ =>
  some true
theorem qdj {list:(List ByteArray)} (ha1:Ro w list cs1) {r:Bool} (hF:qce n list=some r):RetV Tryz.prog 150 [GoT.v (List ByteArray) cs1] w r:=by
 obtain ⟨p1,k1,rfl,s1⟩:=ha1
 refine zV 23 Tryz.func150 rfl fun h=>X0 11 rfl ?_
 obtain ⟨o1,hF,hK1⟩:=qe hF
 refine ql (rL (fun m e w'=>∃ (i1:Int),qcn list m i1=some o1∧e=[(0,.slice p1 list.length k1),(5,.slice p1 list.length k1),(6,.int .i64 (list.length:Int)),(7,.int .i64 i1)]∧SH w w' []) n ⟨_,hF,rfl,h⟩ rfl ?_)
 rintro m1 e1 w1 ⟨i1,hF,rfl,h⟩
 rcases m1 with _|m1
 ·cases hF
 refine X0 5 rfl (qf rfl hF ?_ ?_)<;>intro hF
 ·refine X0 6 rfl ?_
  obtain ⟨y1,hy1,hF,he1,b1,_,q1,cs2,hp1,hq1,rfl,hc2⟩:=s1.ix hF
  refine zxe hp1 hq1 he1 rfl (zc 0 (hc2.below h.below) rfl (X0 6 rfl (zcB h hF qij rfl fun r1 w2 h hF=>zp2 rfl (qg (t:=15) hF rfl ?_ ?_))))<;>intro hF
  ·refine X0 7 rfl (qc3 rfl rfl (X0 4 rfl ?_))
   obtain rfl:=qa hF;replace hF:=hK1
   exact rb h hF rfl
  refine X0 5 rfl ?_
  obtain ⟨x1,hx1,hF⟩:=qe hF
  obtain ⟨p2,k2,hp2,hk1,hl1,g1⟩:=qo7 (h.oldS s1) hx1
  refine r_v (qmh qc rfl rfl rfl (qoD g1 rfl) hp2 hk1 hl1 rfl rfl rfl rfl) rfl ?_
  have s2:=qoT s1 hx1 hp2 hk1
  refine X0 3 rfl (zcB h hF (qgQ ⟨_,_,rfl,(h.oldS s2)⟩) rfl fun r2 w3 h hF=>X0 2 rfl (qf rfl hF ?_ ?_))<;>intro hF
  ·refine X0 4 rfl ?_
   obtain rfl:=qa hF;replace hF:=hK1
   exact rb h hF rfl
  exact X0 6 rfl (rK ⟨_,hF,rfl,h⟩ rfl)
 refine qq rfl ?_
 obtain rfl:=qa hF;replace hF:=hK1
 exact X0 4 rfl (rb h hF rfl)
def qa8 (_:Nat) (list:(List qN)):Option Int :=
 some (list.length:Int)
theorem qeQ {list:(List qN)} (ha1:Ro w list cs1) {r:Int} (hF:qa8 n list=some r):RetV Tryz.prog 214 [GoT.v (List qN) cs1] w r:=by
 obtain ⟨p1,k1,rfl,s1⟩:=ha1
 exact zV 5 Tryz.func214 rfl fun h=>X0 10 rfl (ri h hF rfl)
def qbw (list:(List qN)):Nat→(List ByteArray)→Int→Option (Flow Bool ((List ByteArray) × Int))
 | 0,_,_=>none
 | n+1,x1,i1 =>
  bif decide (i1<(list.length:Int)) then
   (idx list i1).bind fun y1 =>
   (appS x1 ([y1.Am]:List ByteArray)).bind fun x2 =>
   bif (i1==(W64 ((list.length:Int)-1))) then
    bif (y1.Bl != 2) then some (.ret false) else
    bif (y1.Bj != 0) then some (.ret false) else
    bif y1.Ay then some (.ret false) else
    qbw list n x2 (W64 (i1+1))
   else
    bif (y1.Bl != 1) then some (.ret false) else
    (qY n y1.Bj 0 500).bind fun r1 =>
    bif (!r1) then some (.ret false) else
    qbw list n x2 (W64 (i1+1))
  else
   some (.nxt (x1,i1))
def qf8 (n:Nat) (list:(List qN)):Option Bool :=
 (qbw list n ([]:List ByteArray) 0).bind fun o=>match o with
 | .ret r=>some r
 | .nxt (x1,_) =>
  (qa8 n list).bind fun r2 =>
  (qY n r2 2 5).bind fun r3 =>
  bif r3 then
   (qce n x1).bind fun r4 =>
   some r4
  else
   some false
theorem qjT {list:(List qN)} (ha1:Ro w list cs1) {r:Bool} (hF:qf8 n list=some r):RetV Tryz.prog 178 [GoT.v (List qN) cs1] w r:=by
 obtain ⟨p1,k1,rfl,s1⟩:=ha1
 refine zV 52 Tryz.func178 rfl fun h=>X0 15 rfl ?_
 replace h:=h.nil (α:=ByteArray)
 obtain ⟨o1,hF,hK1⟩:=qe hF
 refine ql (rL (fun m e w'=>∃ (S1:Nat→Prop) (p2:Option Addr) (ln1:Nat) (k2:Nat) (x1:(List ByteArray)) (i1:Int),qbw list m x1 i1=some o1∧e=[(0,.slice p1 list.length k1),(3,.slice p2 ln1 k2),(6,.slice p1 list.length k1),(7,.int .i64 (list.length:Int)),(8,.int .i64 i1)]∧SH w w' [Ch.own S1 (x1:List ByteArray) [.slice p2 ln1 k2]]) n ⟨_,_,_,_,_,_,hF,rfl,h⟩ rfl ?_)
 rintro m1 e1 w1 ⟨S1,p2,ln1,k2,x1,i1,hF,rfl,h⟩
 obtain rfl:=(h.sl 0 rfl).2
 rcases m1 with _|m1
 ·cases hF
 refine X0 5 rfl (qf rfl hF ?_ ?_)<;>intro hF
 ·refine X0 6 rfl ?_
  obtain ⟨y1,hy1,hF,he1,b1,_,q1,cs2,hp1,hq1,hr1,hc2⟩:=s1.ix hF
  obtain rfl:=qaz hr1
  refine zxe hp1 hq1 he1 rfl (zc 0 (hc2.below h.below) rfl (qC qc h rfl rfl rfl fun w2 bb1 h=>zp1 rfl (zs 0 h rfl fun w3 h=>X1 6 0 h rfl (qT qc [.tmp 15] _ ([y1.Am]:List ByteArray) h rfl rfl rfl rfl rfl rfl rfl rfl rfl ⟨rfl,trivial⟩ rfl fun w4 p3 S2 h=>?_))))
  obtain ⟨x2,hx1,hF⟩:=qe hF
  obtain ⟨g1,hx1⟩:=qaP hx1
  refine qdO qc 2 h rfl (h.sl 0 rfl).1 (h.sl 0 rfl).2 rfl rfl rfl rfl rfl rfl rfl rfl rfl g1 hx1 rfl fun w5 p4 k3 S3 h=>X0 10 rfl (qf rfl hF ?_ ?_)<;>intro hF
  ·refine X1 6 1 h rfl (qg (t:=26) hF rfl ?_ ?_)<;>intro hF
   ·refine X0 9 rfl (qc3 rfl rfl (X0 4 rfl ?_))
    obtain rfl:=qa hF;replace hF:=hK1
    exact rb h hF rfl
   refine X1 8 1 h rfl (qg (t:=31) hF rfl ?_ ?_)<;>intro hF
   ·refine X0 4 rfl (qc3 rfl rfl (X0 4 rfl ?_))
    obtain rfl:=qa hF;replace hF:=hK1
    exact rb h hF rfl
   refine X1 6 1 h rfl (qf rfl hF ?_ ?_)<;>intro hF
   ·refine X0 4 rfl ?_
    obtain rfl:=qa hF;replace hF:=hK1
    exact rb h hF rfl
   refine X0 6 rfl ?_
   replace h:=h.pick [2] rfl
   exact rK ⟨_,_,_,_,_,_,hF,rfl,h⟩ rfl
  refine X1 6 1 h rfl (qg (t:=38) hF rfl ?_ ?_)<;>intro hF
  ·refine X0 6 rfl (qc3 rfl rfl (X0 4 rfl ?_))
   obtain rfl:=qa hF;replace hF:=hK1
   exact rb h hF rfl
  refine X1 5 1 h rfl (zcB h hF qP rfl fun r1 w6 h hF=>X0 4 rfl (qf rfl hF ?_ ?_))<;>intro hF
  ·refine X0 4 rfl ?_
   obtain rfl:=qa hF;replace hF:=hK1
   exact rb h hF rfl
  refine X0 6 rfl ?_
  replace h:=h.pick [2] rfl
  exact rK ⟨_,_,_,_,_,_,hF,rfl,h⟩ rfl
 refine qq rfl ?_
 obtain rfl:=qa hF;replace hF:=hK1
 refine X0 3 rfl (zcI h hF (qeQ ⟨_,_,rfl,(h.oldS s1)⟩) rfl fun r2 w7 h hF=>zcB h hF qP rfl fun r3 w8 h hF=>zp1 rfl (qg (t:=48) hF rfl ?_ ?_))<;>intro hF
 ·exact X0 3 rfl (zcB h hF (qdj (h.own 0 rfl)) rfl fun r4 w9 h hF=>X0 3 rfl (rb h hF rfl))
 exact X0 5 rfl (rb h hF rfl)
def qcp (n:Nat) (c:qn):Option Int :=
 (qa8 n c.Ak).bind fun r1 =>
 some (W64 (r1-1))
theorem qey {c:qn} (ha1:Ro w c cs1) {r:Int} (hF:qcp n c=some r):RetV Tryz.prog 218 [GoT.v qn cs1] w r:=by
 obtain ⟨p1,k1,p2,k2,p3,k3,rfl,s1,s2,s3⟩:=qE ha1
 exact zV 7 Tryz.func218 rfl fun h=>zSR (qr h rfl rfl fun w1 bb1 h=>X1 6 0 h rfl (zcI h hF (qeQ ⟨_,_,rfl,(h.oldS s1)⟩) rfl fun r1 w2 h hF=>X0 3 rfl (ri h hF rfl)))
def qgl (_:Nat) (kind:Int):Option Bool :=
 bif (kind==4) then some true else
 some (kind==5)
theorem qkc {kind:Int}  {r:Bool} (hF:qgl n kind=some r):RetV Tryz.prog 246 [.int .i64 kind] w r:=by
 refine zV 9 Tryz.func246 rfl fun h=>X0 9 rfl (qg (t:=5) hF rfl ?_ ?_)<;>intro hF
 ·exact X0 5 rfl (rb h hF rfl)
 exact X0 7 rfl (rb h hF rfl)
def qer (n:Nat) (a_n:Int) (v0:Int) (v1:Int):Option Bool :=
 (qY n a_n v0 v1).bind fun r1 =>
 some (!r1)
theorem qiA {a_n:Int} {v0:Int} {v1:Int} {p1:Option Addr} (ha1:Ro w (some v0) [.pointer p1]) {p2:Option Addr} (ha2:Ro w (some v1) [.pointer p2]) {r:Bool} (hF:qer n a_n v0 v1=some r):RetV Tryz.prog 123 [.int .i64 a_n,.pointer p1,.pointer p2] w r:=by
 obtain ⟨b1,o_1,cs1,rfl,-,hr1,hc1⟩:=PtR.get ha1 rfl
 obtain rfl:=hr1
 obtain ⟨b2,o_2,cs2,rfl,-,hr2,hc2⟩:=PtR.get ha2 rfl
 obtain rfl:=hr2
 exact zV 10 Tryz.func123 rfl fun h=>X0 7 rfl (zc 0 (hc1.below h.below) rfl (zc 0 (hc2.below h.below) rfl (zcB h hF qP rfl fun r1 w1 h hF=>X0 3 rfl (rb h hF rfl))))
def qB (s:(List Int)) (f_0:Int) (f_1:Int):Nat→Int→Option (Flow Int Int)
 | 0,_=>none
 | n+1,i1 =>
  bif decide (i1<(s.length:Int)) then
   (idx s i1).bind fun y1 =>
   (qer n y1 f_0 f_1).bind fun r1 =>
   bif r1 then some (.ret i1) else
   qB s f_0 f_1 n (W64 (i1+1))
  else
   some (.nxt i1)
def qaa (n:Nat) (s:(List Int)) (f_0:Int) (f_1:Int):Option Int :=
 (qB s f_0 f_1 n 0).bind fun o=>match o with
 | .ret r=>some r
 | .nxt _ =>
  some (-1)
theorem qdm {s:(List Int)} {f_0:Int} {f_1:Int} (ha1:Ro w s cs1) {p2:Option Addr} (ha2:Ro w (some f_0) [.pointer p2]) {p3:Option Addr} (ha3:Ro w (some f_1) [.pointer p3]) {r:Int} (hF:qaa n s f_0 f_1=some r):RetV Tryz.prog 155 [GoT.v (List Int) cs1,.func (.func 123) #[] #[.pointer p2,.pointer p3]] w r:=by
 obtain ⟨p1,k1,rfl,s1⟩:=ha1
 obtain ⟨b1,o_1,cs2,rfl,-,hr1,hc1⟩:=PtR.get ha2 rfl
 obtain rfl:=hr1
 obtain ⟨b2,o_2,cs3,rfl,-,hr2,hc2⟩:=PtR.get ha3 rfl
 obtain rfl:=hr2
 refine zV 19 Tryz.func155 rfl fun h=>X0 11 rfl ?_
 obtain ⟨o1,hF,hK1⟩:=qe hF
 refine ql (rL (fun m e w'=>∃ (i1:Int),qB s f_0 f_1 m i1=some o1∧e=[(0,.slice p1 s.length k1),(1,.func (.func 123) #[] #[.pointer (some ⟨b1,o_1,none⟩),.pointer (some ⟨b2,o_2,none⟩)]),(7,.int .i64 (s.length:Int)),(8,.int .i64 i1)]∧SH w w' []) n ⟨_,hF,rfl,h⟩ rfl ?_)
 rintro m1 e1 w1 ⟨i1,hF,rfl,h⟩
 rcases m1 with _|m1
 ·cases hF
 refine X0 5 rfl (qf rfl hF ?_ ?_)<;>intro hF
 ·refine X0 13 rfl ?_
  obtain ⟨y1,hy1,hF,he1,b3,_,q1,cs4,hp1,hq1,rfl,hc4⟩:=s1.ix hF
  refine zxe hp1 hq1 he1 rfl (zc 0 (hc4.below h.below) rfl (zcB h hF (qiA (h.old ha2) (h.old ha3)) rfl fun r1 w2 h hF=>qdy (qf rfl hF ?_ ?_)))<;>intro hF
  ·refine X0 5 rfl ?_
   obtain rfl:=qa hF;replace hF:=hK1
   exact ri h hF rfl
  exact X0 6 rfl (rK ⟨_,hF,rfl,h⟩ rfl)
 refine qq rfl ?_
 obtain rfl:=qa hF;replace hF:=hK1
 exact X0 4 rfl (ri h hF rfl)
def qaF (n:Nat) (s:(List Int)) (f_0:Int) (f_1:Int):Option Bool :=
 (qaa n s f_0 f_1).bind fun r1 =>
 some (decide (r1 ≥ 0))
theorem qc1 {s:(List Int)} {f_0:Int} {f_1:Int} (ha1:Ro w s cs1) {p2:Option Addr} (ha2:Ro w (some f_0) [.pointer p2]) {p3:Option Addr} (ha3:Ro w (some f_1) [.pointer p3]) {r:Bool} (hF:qaF n s f_0 f_1=some r):RetV Tryz.prog 122 [GoT.v (List Int) cs1,.func (.func 123) #[] #[.pointer p2,.pointer p3]] w r:=by
 obtain ⟨p1,k1,rfl,s1⟩:=ha1
 obtain ⟨b1,o_1,cs2,rfl,-,hr1,hc1⟩:=PtR.get ha2 rfl
 obtain rfl:=hr1
 obtain ⟨b2,o_2,cs3,rfl,-,hr2,hc2⟩:=PtR.get ha3 rfl
 obtain rfl:=hr2
 exact zV 9 Tryz.func122 rfl fun h=>X0 8 rfl (zcI h hF (qdm ⟨_,_,rfl,(h.oldS s1)⟩ (h.old ha2) (h.old ha3)) rfl fun r1 w1 h hF=>X0 3 rfl (rb h hF rfl))
def qaU (n:Nat) (list:(List Int)) (low:Int) (high:Int):Option Bool :=
 (qaF n list low high).bind fun r1 =>
 some (!r1)
theorem qbg {list:(List Int)} {low:Int} {high:Int} (ha1:Ro w list cs1) {r:Bool} (hF:qaU n list low high=some r):RetV Tryz.prog 76 [GoT.v (List Int) cs1,.int .i64 low,.int .i64 high] w r:=by
 obtain ⟨p1,k1,rfl,s1⟩:=ha1
 exact zV 11 Tryz.func76 rfl fun h=>zSR (qr h rfl rfl fun w1 bb1 h=>qr h rfl rfl fun w2 bb2 h=>X0 6 rfl (zcB h hF (qc1 ⟨_,_,rfl,(h.oldS s1)⟩ (qhi (x:=low) 1 h rfl rfl) (qhi (x:=high) 0 h rfl rfl)) rfl fun r1 w3 h hF=>X0 3 rfl (rb h hF rfl)))
def qaA (_:Nat) (list:(List Int)):Option Int :=
 some (list.length:Int)
theorem qa5 {list:(List Int)} (ha1:Ro w list cs1) {r:Int} (hF:qaA n list=some r):RetV Tryz.prog 73 [GoT.v (List Int) cs1] w r:=by
 obtain ⟨p1,k1,rfl,s1⟩:=ha1
 exact zV 5 Tryz.func73 rfl fun h=>X0 10 rfl (ri h hF rfl)
def qaD (list:(List Int)):Nat→Int→Option (Flow Bool Int)
 | 0,_=>none
 | n+1,i1 =>
  bif decide (i1<(list.length:Int)) then
   (idx list (W64 (i1-1))).bind fun y1 =>
   (idx list i1).bind fun y2 =>
   bif decide (y1 ≥ y2) then some (.ret false) else
   qaD list n (W64 (i1+1))
  else
   some (.nxt i1)
def qbV (n:Nat) (list:(List Int)):Option Bool :=
 (qaD list n 1).bind fun o=>match o with
 | .ret r=>some r
 | .nxt _ =>
  some true
theorem qd6 {list:(List Int)} (ha1:Ro w list cs1) {r:Bool} (hF:qbV n list=some r):RetV Tryz.prog 79 [GoT.v (List Int) cs1] w r:=by
 obtain ⟨p1,k1,rfl,s1⟩:=ha1
 refine zV 20 Tryz.func79 rfl fun h=>X0 9 rfl ?_
 obtain ⟨o1,hF,hK1⟩:=qe hF
 refine ql (rL (fun m e w'=>∃ (i1:Int),qaD list m i1=some o1∧e=[(0,.slice p1 list.length k1),(3,.int .i64 i1)]∧SH w w' []) n ⟨_,hF,rfl,h⟩ rfl ?_)
 rintro m1 e1 w1 ⟨i1,hF,rfl,h⟩
 rcases m1 with _|m1
 ·cases hF
 refine X0 8 rfl (qf rfl hF ?_ ?_)<;>intro hF
 ·refine X0 4 rfl (rD (zd3 rfl ?_))
  obtain ⟨y1,hy1,hF,he1,b1,_,q1,cs2,hp1,hq1,rfl,hc2⟩:=s1.ix hF
  refine zdxe hp1 hq1 he1 rfl (zdc 0 (hc2.below h.below) rfl (zd2 rfl ?_))
  obtain ⟨y2,hy2,hF,he2,b2,_,q2,cs3,hp2,hq2,rfl,hc3⟩:=s1.ix hF
  refine zdxe hp2 hq2 he2 rfl (zdc 0 (hc3.below h.below) rfl (zd1 rfl (dN h fun w2 h=>qf rfl hF ?_ ?_)))<;>intro hF
  ·refine X0 4 rfl ?_
   obtain rfl:=qa hF;replace hF:=hK1
   exact rb h hF rfl
  exact X0 7 rfl (rK ⟨_,hF,rfl,h⟩ rfl)
 refine qq rfl ?_
 obtain rfl:=qa hF;replace hF:=hK1
 exact X0 4 rfl (rb h hF rfl)
def qfT (n:Nat) (list:(List Int)):Option Bool :=
 (qaA n list).bind fun r1 =>
 (qY n r1 1 4).bind fun r2 =>
 bif r2 then
  (qaU n list 0 100000).bind fun r3 =>
  bif r3 then
   (qbV n list).bind fun r4 =>
   some r4
  else
   some false
 else
  some false
theorem qh3 {list:(List Int)} (ha1:Ro w list cs1) {r:Bool} (hF:qfT n list=some r):RetV Tryz.prog 273 [GoT.v (List Int) cs1] w r:=by
 obtain ⟨p1,k1,rfl,s1⟩:=ha1
 refine zV 14 Tryz.func273 rfl fun h=>X0 7 rfl (zcI h hF (qa5 ⟨_,_,rfl,(h.oldS s1)⟩) rfl fun r1 w1 h hF=>zcB h hF qP rfl fun r2 w2 h hF=>zp1 rfl (qg (t:=6) hF rfl ?_ ?_))<;>intro hF
 ·refine X0 3 rfl (zcB h hF (qbg ⟨_,_,rfl,(h.oldS s1)⟩) rfl fun r3 w3 h hF=>zp2 rfl (qg (t:=10) hF rfl ?_ ?_))<;>intro hF
  ·exact X0 3 rfl (zcB h hF (qd6 ⟨_,_,rfl,(h.oldS s1)⟩) rfl fun r4 w4 h hF=>X0 3 rfl (rb h hF rfl))
  exact X0 5 rfl (rb h hF rfl)
 exact X0 9 rfl (rb h hF rfl)
def qgd (n:Nat) (t:qp):Option Bool :=
 (qfT n t.Ba).bind fun r1 =>
 bif r1 then
  (qfT n t.Bb).bind fun r2 =>
  bif r2 then
   bif ((t.As.length:Int)==(W64 ((t.Ba.length:Int)*(t.Bb.length:Int)))) then
    (qaU n t.As (-1000000) 1000000).bind fun r3 =>
    some r3
   else
    some false
  else
   some false
 else
  some false
theorem qjY {t:qp} (ha1:Ro w t cs1) {r:Bool} (hF:qgd n t=some r):RetV Tryz.prog 264 [GoT.v qp cs1] w r:=by
 obtain ⟨p1,k1,p2,k2,p3,k3,rfl,s1,s2,s3⟩:=qaI ha1
 refine zV 29 Tryz.func264 rfl fun h=>zSR (qr h rfl rfl fun w1 bb1 h=>X1 6 0 h rfl (zcB h hF (qh3 ⟨_,_,rfl,(h.oldS s1)⟩) rfl fun r1 w2 h hF=>zp1 rfl (qg (t:=6) hF rfl ?_ ?_)))<;>intro hF
 ·refine X1 5 0 h rfl (zcB h hF (qh3 ⟨_,_,rfl,(h.oldS s2)⟩) rfl fun r2 w3 h hF=>zp2 rfl (qg (t:=11) hF rfl ?_ ?_))<;>intro hF
  ·refine X3 24 0 0 0 h rfl (qg (t:=24) hF rfl ?_ ?_)<;>intro hF
   ·exact X1 5 0 h rfl (zcB h hF (qbg ⟨_,_,rfl,(h.oldS s3)⟩) rfl fun r3 w4 h hF=>X0 3 rfl (rb h hF rfl))
   exact X0 6 rfl (rb h hF rfl)
  exact X0 19 rfl (rb h hF rfl)
 exact X0 24 rfl (rb h hF rfl)
def qbr (x:(List Int)):Nat→Int→Int→Option (Int × Int)
 | 0,_,_=>none
 | n+1,i1,i2 =>
  bif decide (i2<(x.length:Int)) then
   (idx x i2).bind fun y2 =>
   qbr x n (if y2<i1 then y2 else i1) (W64 (i2+1))
  else
   some (i1,i2)
def qef (n:Nat) (x:(List Int)):Option Int :=
 (
  bif decide ((x.length:Int)<1) then none else
  some ()).bind fun _ =>
 (idx x 0).bind fun y1 =>
 (qbr x n y1 1).bind fun o=>match o with
 | (i1,_) =>
  some i1
theorem qiz {x:(List Int)} (ha1:Ro w x cs1) {r:Int} (hF:qef n x=some r):RetV Tryz.prog 265 [GoT.v (List Int) cs1] w r:=by
 obtain ⟨p1,k1,rfl,s1⟩:=ha1
 refine zV 25 Tryz.func265 rfl fun h=>X0 11 rfl ?_
 obtain ⟨KF1,hKF1,o2,hF,hK2⟩:=bindE hF
 refine qcX (fun e w'=>KF1 ()=some r∧e=[(0,.slice p1 x.length k1)]∧SH w w' []) ?_ ?_
 ·refine qf rfl hF ?_ ?_<;>intro hF
  ·refine qhh ?_
   cases hF
  refine qe7 ?_
  obtain rfl:=qa hF
  exact rG ⟨hK2,rfl,h⟩ rfl
 rintro e2 w2 ⟨hF,rfl,h⟩
 subst hKF1
 refine X0 3 rfl ?_
 obtain ⟨y1,hy1,hF,he1,b1,_,q1,cs2,hp1,hq1,rfl,hc1⟩:=s1.ix hF
 refine zxe hp1 hq1 he1 rfl (zc 0 (hc1.below h.below) rfl (X0 7 rfl ?_))
 obtain ⟨o1,hF,hK1⟩:=qe hF
 refine ql (rL (fun m e w'=>∃ (i1:Int) (i2:Int),qbr x m i1 i2=some o1∧e=[(0,.slice p1 x.length k1),(3,.int .i64 i1),(4,.int .i64 i2)]∧SH w w' []) n ⟨_,_,hF,rfl,h⟩ rfl ?_)
 rintro m1 e1 w1 ⟨i1,i2,hF,rfl,h⟩
 rcases m1 with _|m1
 ·cases hF
 refine X0 8 rfl (qf rfl hF ?_ ?_)<;>intro hF
 ·refine X0 7 rfl ?_
  obtain ⟨y2,hy2,hF,he2,b2,_,q2,cs3,hp2,hq2,rfl,hc3⟩:=s1.ix hF
  exact zxe hp2 hq2 he2 rfl (zc 0 (hc3.below h.below) rfl (X0 9 rfl (rK ⟨_,_,hF,rfl,h⟩ rfl)))
 refine qq rfl ?_
 obtain rfl:=qa hF;replace hF:=hK1
 exact X0 5 rfl (ri h hF rfl)
def qen (n:Nat) (t:qp) (v0:Bool):Option Bool :=
 (qgd n t).bind fun r1 =>
 bif (!r1) then some true else
 bif v0 then
  (qef n t.As).bind fun r2 =>
  some (decide (r2<0))
 else
  some false
theorem qiv {t:qp} {v0:Bool} (ha1:Ro w t cs1) {p4:Option Addr} (ha2:Ro w (some v0) [.pointer p4]) {r:Bool} (hF:qen n t v0=some r):RetV Tryz.prog 263 [GoT.v qp cs1,.pointer p4] w r:=by
 obtain ⟨p1,k1,p2,k2,p3,k3,rfl,s1,s2,s3⟩:=qaI ha1
 obtain ⟨b1,o_1,cs2,rfl,-,hr1,hc1⟩:=PtR.get ha2 rfl
 obtain rfl:=hr1
 refine zV 16 Tryz.func263 rfl fun h=>zSR (qr h rfl rfl fun w1 bb1 h=>X1 5 0 h rfl (zcB h hF (qjY (h.old ha1)) rfl fun r1 w2 h hF=>zp2 rfl (qg (t:=7) hF rfl ?_ ?_)))<;>intro hF
 ·exact X0 10 rfl (rb h hF rfl)
 refine X0 1 rfl (zc 0 (hc1.below h.below) rfl (X0 2 rfl (qg (t:=9) hF rfl ?_ ?_)))<;>intro hF
 ·exact X1 5 0 h rfl (zcI h hF (qiz ⟨_,_,rfl,(h.oldS s3)⟩) rfl fun r2 w3 h hF=>X0 7 rfl (rb h hF rfl))
 exact X0 9 rfl (rb h hF rfl)
def qv (s:(List qp)) (f_0:Bool):Nat→Int→Option (Flow Int Int)
 | 0,_=>none
 | n+1,i1 =>
  bif decide (i1<(s.length:Int)) then
   (idx s i1).bind fun y1 =>
   (qen n y1 f_0).bind fun r1 =>
   bif r1 then some (.ret i1) else
   qv s f_0 n (W64 (i1+1))
  else
   some (.nxt i1)
def qS (n:Nat) (s:(List qp)) (f_0:Bool):Option Int :=
 (qv s f_0 n 0).bind fun o=>match o with
 | .ret r=>some r
 | .nxt _ =>
  some (-1)
theorem qcT {s:(List qp)} {f_0:Bool} (ha1:Ro w s cs1) {p2:Option Addr} (ha2:Ro w (some f_0) [.pointer p2]) {r:Int} (hF:qS n s f_0=some r):RetV Tryz.prog 272 [GoT.v (List qp) cs1,.func (.func 263) #[] #[.pointer p2]] w r:=by
 obtain ⟨p1,k1,rfl,s1⟩:=ha1
 obtain ⟨b1,o_1,cs2,rfl,-,hr1,hc1⟩:=PtR.get ha2 rfl
 obtain rfl:=hr1
 refine zV 19 Tryz.func272 rfl fun h=>X0 11 rfl ?_
 obtain ⟨o1,hF,hK1⟩:=qe hF
 refine ql (rL (fun m e w'=>∃ (i1:Int),qv s f_0 m i1=some o1∧e=[(0,.slice p1 s.length k1),(1,.func (.func 263) #[] #[.pointer (some ⟨b1,o_1,none⟩)]),(7,.int .i64 (s.length:Int)),(8,.int .i64 i1)]∧SH w w' []) n ⟨_,hF,rfl,h⟩ rfl ?_)
 rintro m1 e1 w1 ⟨i1,hF,rfl,h⟩
 rcases m1 with _|m1
 ·cases hF
 refine X0 5 rfl (qf rfl hF ?_ ?_)<;>intro hF
 ·refine X0 13 rfl ?_
  obtain ⟨y1,hy1,hF,he1,b2,_,q1,cs3,hp1,hq1,hr2,hc3⟩:=s1.ix hF
  obtain ⟨p3,k2,p4,k3,p5,k4,rfl,s2,s3,s4⟩:=qaI hr2
  refine zxe hp1 hq1 he1 rfl (zc 0 (hc3.below h.below) rfl (zcB h hF (qiv (qfr y1 (h.oldS s2) (h.oldS s3) (h.oldS s4)) (h.old ha2)) rfl fun r1 w2 h hF=>qdy (qf rfl hF ?_ ?_)))<;>intro hF
  ·refine X0 5 rfl ?_
   obtain rfl:=qa hF;replace hF:=hK1
   exact ri h hF rfl
  exact X0 6 rfl (rK ⟨_,hF,rfl,h⟩ rfl)
 refine qq rfl ?_
 obtain rfl:=qa hF;replace hF:=hK1
 exact X0 4 rfl (ri h hF rfl)
def qai (n:Nat) (s:(List qp)) (f_0:Bool):Option Bool :=
 (qS n s f_0).bind fun r1 =>
 some (decide (r1 ≥ 0))
theorem qcr {s:(List qp)} {f_0:Bool} (ha1:Ro w s cs1) {p2:Option Addr} (ha2:Ro w (some f_0) [.pointer p2]) {r:Bool} (hF:qai n s f_0=some r):RetV Tryz.prog 262 [GoT.v (List qp) cs1,.func (.func 263) #[] #[.pointer p2]] w r:=by
 obtain ⟨p1,k1,rfl,s1⟩:=ha1
 obtain ⟨b1,o_1,cs2,rfl,-,hr1,hc1⟩:=PtR.get ha2 rfl
 obtain rfl:=hr1
 exact zV 9 Tryz.func262 rfl fun h=>X0 8 rfl (zcI h hF (qcT ⟨_,_,rfl,(h.oldS s1)⟩ (h.old ha2)) rfl fun r1 w1 h hF=>X0 3 rfl (rb h hF rfl))
def qdf (n:Nat) (list:(List qp)) (positive:Bool):Option Bool :=
 bif ((list.length:Int)==2) then
  (qai n list positive).bind fun r1 =>
  some (!r1)
 else
  some false
theorem qe3 {list:(List qp)} {positive:Bool} (ha1:Ro w list cs1) {r:Bool} (hF:qdf n list positive=some r):RetV Tryz.prog 247 [GoT.v (List qp) cs1,.bool positive] w r:=by
 obtain ⟨p1,k1,rfl,s1⟩:=ha1
 refine zV 14 Tryz.func247 rfl fun h=>zSR (qr h rfl rfl fun w1 bb1 h=>X0 8 rfl (qg (t:=8) hF rfl ?_ ?_))<;>intro hF
 ·exact X0 5 rfl (zcB h hF (qcr ⟨_,_,rfl,(h.oldS s1)⟩ (qhi (x:=positive) 0 h rfl rfl)) rfl fun r1 w2 h hF=>X0 5 rfl (rb h hF rfl))
 exact X0 7 rfl (rb h hF rfl)
def qfe (_:Nat) (p:qN):Option Bool :=
 some p.Ay
theorem qh7 {p:qN} (ha1:Ro w p cs1) {r:Bool} (hF:qfe n p=some r):RetV Tryz.prog 267 [GoT.v qN cs1] w r:=by
 obtain rfl:=qaz ha1
 exact zV 5 Tryz.func267 rfl fun h=>zSR (qr h rfl rfl fun w1 bb1 h=>X1 8 0 h rfl (rb h hF rfl))
def qw (s:(List qN)):Nat→Int→Option (Flow Int Int)
 | 0,_=>none
 | n+1,i1 =>
  bif decide (i1<(s.length:Int)) then
   (idx s i1).bind fun y1 =>
   (qfe n y1).bind fun r1 =>
   bif r1 then some (.ret i1) else
   qw s n (W64 (i1+1))
  else
   some (.nxt i1)
def qaC (n:Nat) (s:(List qN)):Option Int :=
 (qw s n 0).bind fun o=>match o with
 | .ret r=>some r
 | .nxt _ =>
  some (-1)
theorem qcZ {s:(List qN)} (ha1:Ro w s cs1) {r:Int} (hF:qaC n s=some r):RetV Tryz.prog 266 [GoT.v (List qN) cs1,.func (.func 267) #[] #[]] w r:=by
 obtain ⟨p1,k1,rfl,s1⟩:=ha1
 refine zV 19 Tryz.func266 rfl fun h=>X0 11 rfl ?_
 obtain ⟨o1,hF,hK1⟩:=qe hF
 refine ql (rL (fun m e w'=>∃ (i1:Int),qw s m i1=some o1∧e=[(0,.slice p1 s.length k1),(1,.func (.func 267) #[] #[]),(7,.int .i64 (s.length:Int)),(8,.int .i64 i1)]∧SH w w' []) n ⟨_,hF,rfl,h⟩ rfl ?_)
 rintro m1 e1 w1 ⟨i1,hF,rfl,h⟩
 rcases m1 with _|m1
 ·cases hF
 refine X0 5 rfl (qf rfl hF ?_ ?_)<;>intro hF
 ·refine X0 13 rfl ?_
  obtain ⟨y1,hy1,hF,he1,b1,_,q1,cs2,hp1,hq1,hr1,hc2⟩:=s1.ix hF
  obtain rfl:=qaz hr1
  refine zxe hp1 hq1 he1 rfl (zc 0 (hc2.below h.below) rfl (zcB h hF (qh7 (qfH y1)) rfl fun r1 w2 h hF=>qdy (qf rfl hF ?_ ?_)))<;>intro hF
  ·refine X0 5 rfl ?_
   obtain rfl:=qa hF;replace hF:=hK1
   exact ri h hF rfl
  exact X0 6 rfl (rK ⟨_,hF,rfl,h⟩ rfl)
 refine qq rfl ?_
 obtain rfl:=qa hF;replace hF:=hK1
 exact X0 4 rfl (ri h hF rfl)
def qeI (n:Nat) (c:qn):Option Int :=
 (qaC n c.Ak).bind fun r1 =>
 some r1
theorem qiM {c:qn} (ha1:Ro w c cs1) {r:Int} (hF:qeI n c=some r):RetV Tryz.prog 248 [GoT.v qn cs1] w r:=by
 obtain ⟨p1,k1,p2,k2,p3,k3,rfl,s1,s2,s3⟩:=qE ha1
 exact zV 6 Tryz.func248 rfl fun h=>zSR (qr h rfl rfl fun w1 bb1 h=>X1 6 0 h rfl (zcI h hF (qcZ ⟨_,_,rfl,(h.oldS s1)⟩) rfl fun r1 w2 h hF=>X0 2 rfl (ri h hF rfl)))
def qdZ (n:Nat) (c:qn) (pin:Int):Option Bool :=
 (qcp n c).bind fun r1 =>
 (qY n pin 0 (W64 (r1-1))).bind fun r2 =>
 some r2
theorem qfJ {c:qn} {pin:Int} (ha1:Ro w c cs1) {r:Bool} (hF:qdZ n c pin=some r):RetV Tryz.prog 249 [GoT.v qn cs1,.int .i64 pin] w r:=by
 obtain ⟨p1,k1,p2,k2,p3,k3,rfl,s1,s2,s3⟩:=qE ha1
 exact zV 10 Tryz.func249 rfl fun h=>zSR (qr h rfl rfl fun w1 bb1 h=>X1 6 0 h rfl (zcI h hF (qey (h.old ha1)) rfl fun r1 w2 h hF=>zp1 rfl (zcB h hF qP rfl fun r2 w3 h hF=>X0 2 rfl (rb h hF rfl))))
def qeH (n:Nat) (a_0:qn) (a_1:qH):Option Bool :=
 (qgl n a_1.Ap).bind fun r1 =>
 bif r1 then
  (
   bif (a_1.Bf==0) then
    bif ((a_1.Bk.length:Int)==0) then
     (qdf n a_1.Bd false).bind fun r2 =>
     bif r2 then
      (qeI n a_0).bind fun r3 =>
      bif (a_1.Av==r3) then
       bif decide (a_1.Av ≥ 0) then
        (qdZ n a_0 a_1.To).bind fun r4 =>
        bif r4 then some (a_1.To != a_1.Av) else
        some false
       else
        some false
      else
       some false
     else
      some false
    else
     some false
   else
    some false).bind fun b1 =>
  some b1
 else
  (
   (qdf n a_1.Bd true).bind fun r6 =>
   bif (!r6) then some true else
   (qdf n a_1.Bk true).bind fun r7 =>
   bif (!r7) then some true else
   (qcp n a_0).bind fun r8 =>
   bif (a_1.To != r8) then some true else
   (qdZ n a_0 a_1.Av).bind fun r9 =>
   some (!r9)).bind fun b2 =>
  bif b2 then some false else
  bif (a_1.Ap==1) then
   (idx a_0.Ak a_1.Av).bind fun y1 =>
   bif (!y1.Ay) then
    (qY n a_1.Bf 1 3).bind fun r5 =>
    some r5
   else
    some false
  else
   (
    bif (a_1.Ap==2) then some (a_1.Ap==2) else
    some (a_1.Ap==3)).bind fun b4 =>
   bif b4 then
    (idx a_0.Ak a_1.Av).bind fun y2 =>
    bif y2.Ay then some (a_1.Bf==0) else
    some false
   else
    some false
theorem qiR {a_0:qn} {a_1:qH} (ha1:Ro w a_0 cs1) (ha2:Ro w a_1 cs2) {r:Bool} (hF:qeH n a_0 a_1=some r):RetV Tryz.prog 215 [GoT.v qn cs1,GoT.v qH cs2] w r:=by
 obtain ⟨p1,k1,p2,k2,p3,k3,rfl,s1,s2,s3⟩:=qE ha1
 obtain ⟨p4,k4,p5,k5,rfl,s4,s5⟩:=qV ha2
 refine zV 103 Tryz.func215 rfl fun h=>zSR (qr h rfl rfl fun w1 bb1 h=>qr h rfl rfl fun w2 bb2 h=>X1 7 0 h rfl (zcB h hF qkc rfl fun r1 w3 h hF=>qdy (qf rfl hF ?_ ?_)))<;>intro hF
 ·refine qeu ?_
  obtain ⟨KF1,hKF1,o1,hF,hK1⟩:=bindE hF
  refine qcX (fun e w'=>∃ (b1:Bool),KF1 b1=some r∧e=[(4,.bool b1)]∧SH w w' []) ?_ ?_
  ·refine rD (Y1 2 0 h rfl ?_)
   refine zd2 rfl (qaX (t:=11) hF rfl ?_ ?_)<;>intro hF
   ·refine Y1 4 0 h rfl ?_
    refine Y0 6 rfl (qaX (t:=17) hF rfl ?_ ?_)<;>intro hF
    ·refine Y1 4 0 h rfl ?_
     refine Y0 1 rfl ?_
     obtain ⟨r2,hr2,hF⟩:=qe hF
     refine qa4 r2 (vsB _) (cB 247 rfl) (fun _ hb=>qe3 ⟨_,_,rfl,((h.ext hb).oldS s4)⟩ hr2) rfl rfl rfl rfl (zd2 rfl (qaX (t:=22) hF rfl ?_ ?_))<;>intro hF
     ·refine Y1 4 0 h rfl ?_
      refine Y1 2 1 h rfl ?_
      refine Y0 1 rfl ?_
      obtain ⟨r3,hr3,hF⟩:=qe hF
      refine qa4 r3 (vsI _) (cB 248 rfl) (fun _ hb=>qiM ((h.ext hb).old ha1) hr3) rfl rfl rfl rfl (Y0 4 rfl (qaX (t:=29) hF rfl ?_ ?_))<;>intro hF
      ·refine Y1 4 0 h rfl ?_
       refine Y0 4 rfl (qaX (t:=34) hF rfl ?_ ?_)<;>intro hF
       ·refine Y1 2 1 h rfl ?_
        refine Y1 4 0 h rfl ?_
        refine Y0 1 rfl ?_
        obtain ⟨r4,hr4,hF⟩:=qe hF
        refine qa4 r4 (vsB _) (cB 249 rfl) (fun _ hb=>qfJ ((h.ext hb).old ha1) hr4) rfl rfl rfl rfl (zd2 rfl (qaX (t:=40) hF rfl ?_ ?_))<;>intro hF
        ·refine Y1 4 0 h rfl ?_
         refine Y1 4 0 h rfl ?_
         refine Y0 4 rfl (dN h fun w4 h=>?_)
         replace h:=h.pick [] rfl
         obtain rfl:=qa hF
         exact rG ⟨_,hK1,rfl,h⟩ rfl
        refine Y0 7 rfl (dN h fun w5 h=>?_)
        replace h:=h.pick [] rfl
        obtain rfl:=qa hF
        exact rG ⟨_,hK1,rfl,h⟩ rfl
       refine Y0 13 rfl (dN h fun w6 h=>?_)
       replace h:=h.pick [] rfl
       obtain rfl:=qa hF
       exact rG ⟨_,hK1,rfl,h⟩ rfl
      refine Y0 18 rfl (dN h fun w7 h=>?_)
      replace h:=h.pick [] rfl
      obtain rfl:=qa hF
      exact rG ⟨_,hK1,rfl,h⟩ rfl
     refine Y0 25 rfl (dN h fun w8 h=>?_)
     replace h:=h.pick [] rfl
     obtain rfl:=qa hF
     exact rG ⟨_,hK1,rfl,h⟩ rfl
    refine Y0 30 rfl (dN h fun w9 h=>?_)
    replace h:=h.pick [] rfl
    obtain rfl:=qa hF
    exact rG ⟨_,hK1,rfl,h⟩ rfl
   refine Y0 36 rfl (dN h fun w10 h=>?_)
   replace h:=h.pick [] rfl
   obtain rfl:=qa hF
   exact rG ⟨_,hK1,rfl,h⟩ rfl
  rintro e1 w11 ⟨b1,hF,rfl,h⟩
  subst hKF1
  exact rb h hF rfl
 refine zKSS ?_
 obtain ⟨KF3,hKF3,o3,hF,hK3⟩:=bindE hF
 refine qcX (fun e w'=>∃ (b2:Bool),KF3 b2=some r∧e=[(2,.pointer (some ⟨bb1,0,none⟩)),(3,.pointer (some ⟨bb2,0,none⟩)),(70,.bool b2)]∧SH w w' [Ch.box bb2 (qhE a_1 p4 p5 k4 k5) 183,Ch.box bb1 (qcd a_0 p1 p2 p3 k1 k2 k3) 169]) ?_ ?_
 ·refine rD (Y1 2 0 h rfl ?_)
  obtain ⟨r6,hr8,hF⟩:=qe hF
  refine qa4 r6 (vsB _) (cB 247 rfl) (fun _ hb=>qe3 ⟨_,_,rfl,((h.ext hb).oldS s4)⟩ hr8) rfl rfl rfl rfl (zd2 rfl (qaX (t:=51) hF rfl ?_ ?_))<;>intro hF
  ·refine Y0 19 rfl (dN h fun w14 h=>?_)
   obtain rfl:=qa hF
   exact rG ⟨_,hK3,rfl,h⟩ rfl
  refine Y1 4 0 h rfl ?_
  refine Y0 1 rfl ?_
  obtain ⟨r7,hr9,hF⟩:=qe hF
  refine qa4 r7 (vsB _) (cB 247 rfl) (fun _ hb=>qe3 ⟨_,_,rfl,((h.ext hb).oldS s5)⟩ hr9) rfl rfl rfl rfl (Y0 4 rfl (qaX (t:=57) hF rfl ?_ ?_))<;>intro hF
  ·refine Y0 13 rfl (dN h fun w15 h=>?_)
   obtain rfl:=qa hF
   exact rG ⟨_,hK3,rfl,h⟩ rfl
  refine Y1 4 0 h rfl ?_
  refine Y1 2 1 h rfl ?_
  refine Y0 1 rfl ?_
  obtain ⟨r8,hr10,hF⟩:=qe hF
  refine qa4 r8 (vsI _) (cB 218 rfl) (fun _ hb=>qey ((h.ext hb).old ha1) hr10) rfl rfl rfl rfl (Y0 4 rfl (qaX (t:=64) hF rfl ?_ ?_))<;>intro hF
  ·refine Y0 6 rfl (dN h fun w16 h=>?_)
   obtain rfl:=qa hF
   exact rG ⟨_,hK3,rfl,h⟩ rfl
  refine Y1 2 1 h rfl ?_
  refine Y1 4 0 h rfl ?_
  refine Y0 1 rfl ?_
  obtain ⟨r9,hr11,hF⟩:=qe hF
  refine qa4 r9 (vsB _) (cB 249 rfl) (fun _ hb=>qfJ ((h.ext hb).old ha1) hr11) rfl rfl rfl rfl (Y0 3 rfl (dN h fun w17 h=>?_))
  obtain rfl:=qa hF
  exact rG ⟨_,hK3,rfl,h⟩ rfl
 rintro e3 w18 ⟨b2,hF,rfl,h⟩
 subst hKF3
 refine qf rfl hF ?_ ?_<;>intro hF
 ·exact X0 4 rfl (rb h hF rfl)
 refine X1 13 0 h rfl (qf rfl hF ?_ ?_)<;>intro hF
 ·refine X2 6 1 0 h rfl ?_
  obtain ⟨y1,hy1,hF,he1,b3,_,q1,cs3,hp1,hq1,hr5,hc4⟩:=s1.ix hF
  obtain rfl:=qaz hr5
  refine zxe hp1 hq1 he1 rfl (zp1 rfl (zc 3 (hc4.below h.below) rfl (zp2 rfl (qg (t:=83) hF rfl ?_ ?_))))<;>intro hF
  ·exact X1 5 0 h rfl (zcB h hF qP rfl fun r5 w12 h hF=>X0 3 rfl (rb h hF rfl))
  exact X0 6 rfl (rb h hF rfl)
 refine X0 6 rfl ?_
 obtain ⟨KF2,hKF2,o2,hF,hK2⟩:=bindE hF
 refine qcX (fun e w'=>∃ (b4:Bool),KF2 b4=some r∧e=[(2,.pointer (some ⟨bb1,0,none⟩)),(3,.pointer (some ⟨bb2,0,none⟩)),(88,.bool b4)]∧SH w w' [Ch.box bb2 (qhE a_1 p4 p5 k4 k5) 183,Ch.box bb1 (qcd a_0 p1 p2 p3 k1 k2 k3) 169]) ?_ ?_
 ·refine qf rfl hF ?_ ?_<;>intro hF
  ·refine qe7 ?_
   obtain rfl:=qa hF
   exact rG ⟨_,hK2,rfl,h⟩ rfl
  refine X0 4 rfl ?_
  obtain rfl:=qa hF
  exact rG ⟨_,hK2,rfl,h⟩ rfl
 rintro e2 w13 ⟨b4,hF,rfl,h⟩
 subst hKF2
 refine qf rfl hF ?_ ?_<;>intro hF
 ·refine X2 6 1 0 h rfl ?_
  obtain ⟨y2,hy2,hF,he2,b5,_,q2,cs4,hp2,hq2,hr7,hc6⟩:=s1.ix hF
  obtain rfl:=qaz hr7
  refine zxe hp2 hq2 he2 rfl (zp1 rfl (zc 3 (hc6.below h.below) rfl (zp1 rfl (qg (t:=98) hF rfl ?_ ?_))))<;>intro hF
  ·exact X1 9 0 h rfl (rb h hF rfl)
  exact X0 6 rfl (rb h hF rfl)
 exact X0 6 rfl (rb h hF rfl)
def qc4 (_:Nat) (a_o:qH) (v0:qH):Option Bool :=
 bif (a_o.Ap==v0.Ap) then
  bif (a_o.Av==v0.Av) then some (a_o.To==v0.To) else
  some false
 else
  some false
theorem qhH {a_o:qH} {v0:qH} (ha1:Ro w a_o cs1) {p3:Option Addr} (ha2:Ro w (some v0) [.pointer p3]) {r:Bool} (hF:qc4 n a_o v0=some r):RetV Tryz.prog 217 [GoT.v qH cs1,.pointer p3] w r:=by
 obtain ⟨p1,k1,p2,k2,rfl,s1,s2⟩:=qV ha1
 obtain ⟨b1,o_1,cs2,rfl,-,hr1,hc1⟩:=PtR.get ha2 rfl
 obtain ⟨p4,k3,p5,k4,rfl,s3,s4⟩:=qV hr1
 refine zV 23 Tryz.func217 rfl fun h=>zSR (qr h rfl rfl fun w1 bb1 h=>X1 7 0 h rfl (zc 0 (hc1.below h.below) rfl (zp2 rfl (qg (t:=9) hF rfl ?_ ?_))))<;>intro hF
 ·refine X1 7 0 h rfl (zc 1 (hc1.below h.below) rfl (X0 4 rfl (qg (t:=16) hF rfl ?_ ?_)))<;>intro hF
  ·exact X1 7 0 h rfl (zc 2 (hc1.below h.below) rfl (X0 5 rfl (rb h hF rfl)))
  exact X0 8 rfl (rb h hF rfl)
 exact X0 15 rfl (rb h hF rfl)
def qu (s:(List qH)) (f_0:qH):Nat→Int→Option (Flow Int Int)
 | 0,_=>none
 | n+1,i1 =>
  bif decide (i1<(s.length:Int)) then
   (idx s i1).bind fun y1 =>
   (qc4 n y1 f_0).bind fun r1 =>
   bif r1 then some (.ret i1) else
   qu s f_0 n (W64 (i1+1))
  else
   some (.nxt i1)
def qaq (n:Nat) (s:(List qH)) (f_0:qH):Option Int :=
 (qu s f_0 n 0).bind fun o=>match o with
 | .ret r=>some r
 | .nxt _ =>
  some (-1)
theorem qcy {s:(List qH)} {f_0:qH} (ha1:Ro w s cs1) {p2:Option Addr} (ha2:Ro w (some f_0) [.pointer p2]) {r:Int} (hF:qaq n s f_0=some r):RetV Tryz.prog 250 [GoT.v (List qH) cs1,.func (.func 217) #[] #[.pointer p2]] w r:=by
 obtain ⟨p1,k1,rfl,s1⟩:=ha1
 obtain ⟨b1,o_1,cs2,rfl,-,hr1,hc1⟩:=PtR.get ha2 rfl
 obtain ⟨p3,k2,p4,k3,rfl,s2,s3⟩:=qV hr1
 refine zV 19 Tryz.func250 rfl fun h=>X0 11 rfl ?_
 obtain ⟨o1,hF,hK1⟩:=qe hF
 refine ql (rL (fun m e w'=>∃ (i1:Int),qu s f_0 m i1=some o1∧e=[(0,.slice p1 s.length k1),(1,.func (.func 217) #[] #[.pointer (some ⟨b1,o_1,none⟩)]),(7,.int .i64 (s.length:Int)),(8,.int .i64 i1)]∧SH w w' []) n ⟨_,hF,rfl,h⟩ rfl ?_)
 rintro m1 e1 w1 ⟨i1,hF,rfl,h⟩
 rcases m1 with _|m1
 ·cases hF
 refine X0 5 rfl (qf rfl hF ?_ ?_)<;>intro hF
 ·refine X0 13 rfl ?_
  obtain ⟨y1,hy1,hF,he1,b2,_,q1,cs3,hp1,hq1,hr2,hc3⟩:=s1.ix hF
  obtain ⟨p5,k4,p6,k5,rfl,s4,s5⟩:=qV hr2
  refine zxe hp1 hq1 he1 rfl (zc 0 (hc3.below h.below) rfl (zcB h hF (qhH (qeA y1 (h.oldS s4) (h.oldS s5)) (h.old ha2)) rfl fun r1 w2 h hF=>qdy (qf rfl hF ?_ ?_)))<;>intro hF
  ·refine X0 5 rfl ?_
   obtain rfl:=qa hF;replace hF:=hK1
   exact ri h hF rfl
  exact X0 6 rfl (rK ⟨_,hF,rfl,h⟩ rfl)
 refine qq rfl ?_
 obtain rfl:=qa hF;replace hF:=hK1
 exact X0 4 rfl (ri h hF rfl)
def qL (n:Nat) (s:(List qH)) (f_0:qH):Option Bool :=
 (qaq n s f_0).bind fun r1 =>
 some (decide (r1 ≥ 0))
theorem qco {s:(List qH)} {f_0:qH} (ha1:Ro w s cs1) {p2:Option Addr} (ha2:Ro w (some f_0) [.pointer p2]) {r:Bool} (hF:qL n s f_0=some r):RetV Tryz.prog 216 [GoT.v (List qH) cs1,.func (.func 217) #[] #[.pointer p2]] w r:=by
 obtain ⟨p1,k1,rfl,s1⟩:=ha1
 obtain ⟨b1,o_1,cs2,rfl,-,hr1,hc1⟩:=PtR.get ha2 rfl
 obtain ⟨p3,k2,p4,k3,rfl,s2,s3⟩:=qV hr1
 exact zV 9 Tryz.func216 rfl fun h=>X0 8 rfl (zcI h hF (qcy ⟨_,_,rfl,(h.oldS s1)⟩ (h.old ha2)) rfl fun r1 w1 h hF=>X0 3 rfl (rb h hF rfl))
end Go.Fw


namespace Go.Fw
open Go Go.Proofs
open Go.RowKit (Below)
set_option maxRecDepth 100000
set_option maxHeartbeats 6400000
variable {n:Nat} {w:World} {cs1 cs2 cs3 cs4 cs5 cs6 cs7 cs8 cs9:List Value}
def qba (c:qn):Nat→Int→Option (Flow Bool Int)
 | 0,_=>none
 | n+1,i1 =>
  bif decide (i1<(c.Ar.length:Int)) then
   (idx c.Ar i1).bind fun y1 =>
   (qeH n c y1).bind fun r1 =>
   bif (!r1) then some (.ret false) else
   (subS c.Ar 0 i1).bind fun x1 =>
   (qL n x1 y1).bind fun r2 =>
   bif r2 then some (.ret false) else
   qba c n (W64 (i1+1))
  else
   some (.nxt i1)
def qdS (n:Nat) (c:qn):Option Bool :=
 (qba c n 0).bind fun o=>match o with
 | .ret r=>some r
 | .nxt _ =>
  some (decide ((c.Ar.length:Int)≤8))
theorem qhW {c:qn} (ha1:Ro w c cs1) {r:Bool} (hF:qdS n c=some r):RetV Tryz.prog 179 [GoT.v qn cs1] w r:=by
 obtain ⟨p1,k1,p2,k2,p3,k3,rfl,s1,s2,s3⟩:=qE ha1
 refine zV 30 Tryz.func179 rfl fun h=>zSR (qr h rfl rfl fun w1 bb1 h=>X1 10 0 h rfl ?_)
 obtain ⟨o1,hF,hK1⟩:=qe hF
 refine ql (rL (fun m e w'=>∃ (i1:Int),qba c m i1=some o1∧e=[(1,.pointer (some ⟨bb1,0,none⟩)),(6,.slice p2 c.Ar.length k2),(7,.int .i64 (c.Ar.length:Int)),(8,.int .i64 i1)]∧SH w w' [Ch.box bb1 (qcd c p1 p2 p3 k1 k2 k3) 169]) n ⟨_,hF,rfl,h⟩ rfl ?_)
 rintro m1 e1 w2 ⟨i1,hF,rfl,h⟩
 rcases m1 with _|m1
 ·cases hF
 refine X0 5 rfl (qf rfl hF ?_ ?_)<;>intro hF
 ·refine X0 6 rfl ?_
  obtain ⟨y1,hy1,hF,he1,b1,_,q1,cs2,hp1,hq1,hr1,hc2⟩:=s2.ix hF
  obtain ⟨p4,k4,p5,k5,rfl,s4,s5⟩:=qV hr1
  refine zxe hp1 hq1 he1 rfl (zc 0 (hc2.below h.below) rfl (qC qc h rfl rfl rfl fun w3 bb2 h=>zp1 rfl (zs 0 h rfl fun w4 h=>X2 5 1 0 h rfl (zcB h hF (qiR (h.old ha1) (qeA y1 (h.oldS s4) (h.oldS s5))) rfl fun r1 w5 h hF=>zp2 rfl (qg (t:=17) hF rfl ?_ ?_)))))<;>intro hF
  ·refine X0 8 rfl (qc3 rfl rfl (X0 4 rfl ?_))
   obtain rfl:=qa hF;replace hF:=hK1
   exact rb h hF rfl
  refine X1 7 1 h rfl ?_
  obtain ⟨x1,hx1,hF⟩:=qe hF
  obtain ⟨p6,k6,hp2,hk1,hl1,g1⟩:=qo7 (h.oldS s2) hx1
  refine r_v (qmh qc rfl rfl rfl (qoD g1 rfl) hp2 hk1 hl1 rfl rfl rfl rfl) rfl ?_
  have s6:=qoT s2 hx1 hp2 hk1
  refine X0 3 rfl (zcB h hF (qco ⟨_,_,rfl,(h.oldS s6)⟩ (qhi (x:=y1) 0 h rfl (qeA y1 (h.oldS s4) (h.oldS s5)))) rfl fun r2 w6 h hF=>X0 2 rfl (qf rfl hF ?_ ?_))<;>intro hF
  ·refine X0 4 rfl ?_
   obtain rfl:=qa hF;replace hF:=hK1
   exact rb h hF rfl
  refine X0 6 rfl ?_
  replace h:=h.pick [1] rfl
  exact rK ⟨_,hF,rfl,h⟩ rfl
 refine qq rfl ?_
 obtain rfl:=qa hF;replace hF:=hK1
 exact X1 8 0 h rfl (rb h hF rfl)
def qfY (_:Nat) (a:qH) (v0:Int):Option Bool :=
 some (a.Ap==v0)
theorem qiO {a:qH} {v0:Int} (ha1:Ro w a cs1) {p3:Option Addr} (ha2:Ro w (some v0) [.pointer p3]) {r:Bool} (hF:qfY n a v0=some r):RetV Tryz.prog 251 [GoT.v qH cs1,.pointer p3] w r:=by
 obtain ⟨p1,k1,p2,k2,rfl,s1,s2⟩:=qV ha1
 obtain ⟨b1,o_1,cs2,rfl,-,hr1,hc1⟩:=PtR.get ha2 rfl
 obtain rfl:=hr1
 exact zV 8 Tryz.func251 rfl fun h=>zSR (qr h rfl rfl fun w1 bb1 h=>X1 6 0 h rfl (zc 0 (hc1.below h.below) rfl (X0 3 rfl (rb h hF rfl))))
def qy (s:(List qH)) (f_0:Int):Nat→Int→Option (Flow Int Int)
 | 0,_=>none
 | n+1,i1 =>
  bif decide (i1<(s.length:Int)) then
   (idx s i1).bind fun y1 =>
   (qfY n y1 f_0).bind fun r1 =>
   bif r1 then some (.ret i1) else
   qy s f_0 n (W64 (i1+1))
  else
   some (.nxt i1)
def qaG (n:Nat) (s:(List qH)) (f_0:Int):Option Int :=
 (qy s f_0 n 0).bind fun o=>match o with
 | .ret r=>some r
 | .nxt _ =>
  some (-1)
theorem qdb {s:(List qH)} {f_0:Int} (ha1:Ro w s cs1) {p2:Option Addr} (ha2:Ro w (some f_0) [.pointer p2]) {r:Int} (hF:qaG n s f_0=some r):RetV Tryz.prog 250 [GoT.v (List qH) cs1,.func (.func 251) #[] #[.pointer p2]] w r:=by
 obtain ⟨p1,k1,rfl,s1⟩:=ha1
 obtain ⟨b1,o_1,cs2,rfl,-,hr1,hc1⟩:=PtR.get ha2 rfl
 obtain rfl:=hr1
 refine zV 19 Tryz.func250 rfl fun h=>X0 11 rfl ?_
 obtain ⟨o1,hF,hK1⟩:=qe hF
 refine ql (rL (fun m e w'=>∃ (i1:Int),qy s f_0 m i1=some o1∧e=[(0,.slice p1 s.length k1),(1,.func (.func 251) #[] #[.pointer (some ⟨b1,o_1,none⟩)]),(7,.int .i64 (s.length:Int)),(8,.int .i64 i1)]∧SH w w' []) n ⟨_,hF,rfl,h⟩ rfl ?_)
 rintro m1 e1 w1 ⟨i1,hF,rfl,h⟩
 rcases m1 with _|m1
 ·cases hF
 refine X0 5 rfl (qf rfl hF ?_ ?_)<;>intro hF
 ·refine X0 13 rfl ?_
  obtain ⟨y1,hy1,hF,he1,b2,_,q1,cs3,hp1,hq1,hr2,hc3⟩:=s1.ix hF
  obtain ⟨p3,k2,p4,k3,rfl,s2,s3⟩:=qV hr2
  refine zxe hp1 hq1 he1 rfl (zc 0 (hc3.below h.below) rfl (zcB h hF (qiO (qeA y1 (h.oldS s2) (h.oldS s3)) (h.old ha2)) rfl fun r1 w2 h hF=>qdy (qf rfl hF ?_ ?_)))<;>intro hF
  ·refine X0 5 rfl ?_
   obtain rfl:=qa hF;replace hF:=hK1
   exact ri h hF rfl
  exact X0 6 rfl (rK ⟨_,hF,rfl,h⟩ rfl)
 refine qq rfl ?_
 obtain rfl:=qa hF;replace hF:=hK1
 exact X0 4 rfl (ri h hF rfl)
def qax (n:Nat) (s:(List qH)) (f_0:Int):Option Bool :=
 (qaG n s f_0).bind fun r1 =>
 some (decide (r1 ≥ 0))
theorem qcO {s:(List qH)} {f_0:Int} (ha1:Ro w s cs1) {p2:Option Addr} (ha2:Ro w (some f_0) [.pointer p2]) {r:Bool} (hF:qax n s f_0=some r):RetV Tryz.prog 216 [GoT.v (List qH) cs1,.func (.func 251) #[] #[.pointer p2]] w r:=by
 obtain ⟨p1,k1,rfl,s1⟩:=ha1
 obtain ⟨b1,o_1,cs2,rfl,-,hr1,hc1⟩:=PtR.get ha2 rfl
 obtain rfl:=hr1
 exact zV 9 Tryz.func216 rfl fun h=>X0 8 rfl (zcI h hF (qdb ⟨_,_,rfl,(h.oldS s1)⟩ (h.old ha2)) rfl fun r1 w1 h hF=>X0 3 rfl (rb h hF rfl))
def qbK (n:Nat) (c:qn) (kind:Int):Option Bool :=
 (qax n c.Ar kind).bind fun r1 =>
 some r1
theorem qcj {c:qn} {kind:Int} (ha1:Ro w c cs1) {r:Bool} (hF:qbK n c kind=some r):RetV Tryz.prog 219 [GoT.v qn cs1,.int .i64 kind] w r:=by
 obtain ⟨p1,k1,p2,k2,p3,k3,rfl,s1,s2,s3⟩:=qE ha1
 exact zV 9 Tryz.func219 rfl fun h=>zSR (qr h rfl rfl fun w1 bb1 h=>qr h rfl rfl fun w2 bb2 h=>X1 7 1 h rfl (zcB h hF (qcO ⟨_,_,rfl,(h.oldS s2)⟩ (qhi (x:=kind) 0 h rfl rfl)) rfl fun r1 w3 h hF=>X0 2 rfl (rb h hF rfl)))
def qas (a_0:qn):Nat→Int→Int→Option (Int × Int)
 | 0,_,_=>none
 | n+1,i1,i2 =>
  bif decide (i2<(a_0.Ak.length:Int)) then
   (idx a_0.Ak i2).bind fun y1 =>
   bif y1.Ay then qas a_0 n (W64 (i1+1)) (W64 (i2+1)) else
   qas a_0 n i1 (W64 (i2+1))
  else
   some (i1,i2)
def qdp (n:Nat) (a_0:qn):Option Bool :=
 (qas a_0 n 0 0).bind fun o=>match o with
 | (i1,_) =>
  bif (a_0.Ap==1) then
   bif (i1==0) then
    (qcp n a_0).bind fun r1 =>
    (shlS 1 r1).bind fun y2 =>
    bif ((a_0.Az.length:Int)==y2) then
     (qaU n a_0.Az 0 1).bind fun r2 =>
     some r2
    else
     some false
   else
    some false
  else
   bif (a_0.Ap==2) then
    bif (i1==1) then
     bif ((a_0.Az.length:Int)==0) then
      (qbK n a_0 1).bind fun r3 =>
      bif (!r3) then
       (qbK n a_0 2).bind fun r4 =>
       (qbK n a_0 3).bind fun r5 =>
       some (!(r4==r5))
      else
       some false
     else
      some false
    else
     some false
   else
    bif (a_0.Ap==3) then
     bif (i1==1) then
      bif ((a_0.Az.length:Int)==0) then
       (qbK n a_0 1).bind fun r6 =>
       bif r6 then
        (qbK n a_0 2).bind fun r7 =>
        bif r7 then
         (qbK n a_0 3).bind fun r8 =>
         some (!r8)
        else
         some false
       else
        some false
      else
       some false
     else
      some false
    else
     some false
theorem qhO {a_0:qn} (ha1:Ro w a_0 cs1) {r:Bool} (hF:qdp n a_0=some r):RetV Tryz.prog 180 [GoT.v qn cs1] w r:=by
 obtain ⟨p1,k1,p2,k2,p3,k3,rfl,s1,s2,s3⟩:=qE ha1
 refine zV 83 Tryz.func180 rfl fun h=>zSR (qr h rfl rfl fun w1 bb1 h=>X1 14 0 h rfl ?_)
 obtain ⟨o1,hF,hK1⟩:=qe hF
 refine ql (rL (fun m e w'=>∃ (i1:Int) (i2:Int),qas a_0 m i1 i2=some o1∧e=[(1,.pointer (some ⟨bb1,0,none⟩)),(3,.int .i64 i1),(7,.slice p1 a_0.Ak.length k1),(8,.int .i64 (a_0.Ak.length:Int)),(9,.int .i64 i2)]∧SH w w' [Ch.box bb1 (qcd a_0 p1 p2 p3 k1 k2 k3) 169]) n ⟨_,_,hF,rfl,h⟩ rfl ?_)
 rintro m1 e1 w2 ⟨i1,i2,hF,rfl,h⟩
 rcases m1 with _|m1
 ·cases hF
 refine X0 5 rfl (qf rfl hF ?_ ?_)<;>intro hF
 ·refine zKSBSR ?_
  obtain ⟨y1,hy1,hF,he1,b1,_,q1,cs2,hp1,hq1,hr1,hc2⟩:=s1.ix hF
  obtain rfl:=qaz hr1
  refine zxe hp1 hq1 he1 rfl (zc 0 (hc2.below h.below) rfl (qC qc h rfl rfl rfl fun w3 bb2 h=>zs 0 h rfl fun w4 h=>X1 6 0 h rfl (qf rfl hF ?_ ?_)))<;>intro hF
  ·refine X0 10 rfl ?_
   replace h:=h.pick [1] rfl
   exact rK ⟨_,_,hF,rfl,h⟩ rfl
  refine X0 6 rfl ?_
  replace h:=h.pick [1] rfl
  exact rK ⟨_,_,hF,rfl,h⟩ rfl
 refine qq rfl ?_
 obtain rfl:=qa hF;replace hF:=hK1
 refine X1 12 0 h rfl (qf rfl hF ?_ ?_)<;>intro hF
 ·refine qeu (rD (zd3 rfl (qaX (t:=24) hF rfl ?_ ?_)))<;>intro hF
  ·refine Y1 4 0 h rfl ?_
   refine Y1 4 0 h rfl ?_
   refine Y0 1 rfl ?_
   obtain ⟨r1,hr2,hF⟩:=qe hF
   refine qa4 r1 (vsI _) (cB 218 rfl) (fun _ hb=>qey ((h.ext hb).old ha1) hr2) rfl rfl rfl rfl (Y0 1 rfl ?_)
   obtain ⟨y2,hx1,hF⟩:=qe hF
   obtain ⟨g1,hx1⟩:=qlz hx1
   refine d_v (fun _ hb=>qpV g1 rfl rfl) rfl ?_
   rw [hx1]
   refine Y0 4 rfl (qaX (t:=33) hF rfl ?_ ?_)<;>intro hF
   ·refine Y1 4 0 h rfl ?_
    refine Y0 1 rfl ?_
    obtain ⟨r2,hr3,hF⟩:=qe hF
    exact qa4 r2 (vsB _) (cB 76 rfl) (fun _ hb=>qbg ⟨_,_,rfl,((h.ext hb).oldS s3)⟩ hr3) rfl rfl rfl rfl (zd2 rfl (dN h fun w5 h=>rb h hF rfl))
   exact Y0 5 rfl (dN h fun w6 h=>rb h hF rfl)
  exact Y0 14 rfl (dN h fun w7 h=>rb h hF rfl)
 refine X0 5 rfl (qf rfl hF ?_ ?_)<;>intro hF
 ·refine qeu (rD (zd3 rfl (qaX (t:=42) hF rfl ?_ ?_)))<;>intro hF
  ·refine Y1 4 0 h rfl ?_
   refine Y0 6 rfl (qaX (t:=48) hF rfl ?_ ?_)<;>intro hF
   ·refine Y1 2 0 h rfl ?_
    refine Y0 1 rfl ?_
    obtain ⟨r3,hr4,hF⟩:=qe hF
    refine qa4 r3 (vsB _) (cB 219 rfl) (fun _ hb=>qcj ((h.ext hb).old ha1) hr4) rfl rfl rfl rfl (Y0 4 rfl (qaX (t:=53) hF rfl ?_ ?_))<;>intro hF
    ·refine Y1 2 0 h rfl ?_
     refine Y0 1 rfl ?_
     obtain ⟨r4,hr5,hF⟩:=qe hF
     refine qa4 r4 (vsB _) (cB 219 rfl) (fun _ hb=>qcj ((h.ext hb).old ha1) hr5) rfl rfl rfl rfl (Y1 2 0 h rfl ?_)
     refine Y0 1 rfl ?_
     obtain ⟨r5,hr6,hF⟩:=qe hF
     exact qa4 r5 (vsB _) (cB 219 rfl) (fun _ hb=>qcj ((h.ext hb).old ha1) hr6) rfl rfl rfl rfl (Y0 4 rfl (dN h fun w8 h=>rb h hF rfl))
    exact Y0 7 rfl (dN h fun w9 h=>rb h hF rfl)
   exact Y0 12 rfl (dN h fun w10 h=>rb h hF rfl)
  exact Y0 18 rfl (dN h fun w11 h=>rb h hF rfl)
 refine X0 5 rfl (qf rfl hF ?_ ?_)<;>intro hF
 ·refine X0 5 rfl (qg (t:=64) hF rfl ?_ ?_)<;>intro hF
  ·refine X1 10 0 h rfl (qg (t:=70) hF rfl ?_ ?_)<;>intro hF
   ·refine X1 3 0 h rfl (zcB h hF (qcj (h.old ha1)) rfl fun r6 w12 h hF=>zp2 rfl (qg (t:=74) hF rfl ?_ ?_))<;>intro hF
    ·refine X1 3 0 h rfl (zcB h hF (qcj (h.old ha1)) rfl fun r7 w13 h hF=>zp2 rfl (qg (t:=78) hF rfl ?_ ?_))<;>intro hF
     ·exact X1 3 0 h rfl (zcB h hF (qcj (h.old ha1)) rfl fun r8 w14 h hF=>X0 5 rfl (rb h hF rfl))
     exact X0 6 rfl (rb h hF rfl)
    exact X0 10 rfl (rb h hF rfl)
   exact X0 14 rfl (rb h hF rfl)
  exact X0 20 rfl (rb h hF rfl)
 exact X0 6 rfl (rb h hF rfl)
def qgZ (n:Nat) (c:qn):Option Bool :=
 (qfL n c.Am).bind fun r1 =>
 bif r1 then
  (qf8 n c.Ak).bind fun r2 =>
  bif r2 then
   (qdS n c).bind fun r3 =>
   bif r3 then
    (qY n c.Bo 0 100000).bind fun r4 =>
    bif r4 then
     (qY n c.Bh 0 100000).bind fun r5 =>
     bif r5 then
      (qdp n c).bind fun r6 =>
      some r6
     else
      some false
    else
     some false
   else
    some false
  else
   some false
 else
  some false
theorem qkO {c:qn} (ha1:Ro w c cs1) {r:Bool} (hF:qgZ n c=some r):RetV Tryz.prog 149 [GoT.v qn cs1] w r:=by
 obtain ⟨p1,k1,p2,k2,p3,k3,rfl,s1,s2,s3⟩:=qE ha1
 refine zV 29 Tryz.func149 rfl fun h=>zSR (qr h rfl rfl fun w1 bb1 h=>X1 6 0 h rfl (zcB h hF qij rfl fun r1 w2 h hF=>zp1 rfl (qg (t:=6) hF rfl ?_ ?_)))<;>intro hF
 ·refine X1 5 0 h rfl (zcB h hF (qjT ⟨_,_,rfl,(h.oldS s1)⟩) rfl fun r2 w3 h hF=>zp2 rfl (qg (t:=11) hF rfl ?_ ?_))<;>intro hF
  ·refine X1 3 0 h rfl (zcB h hF (qhW (h.old ha1)) rfl fun r3 w4 h hF=>zp2 rfl (qg (t:=15) hF rfl ?_ ?_))<;>intro hF
   ·refine X1 5 0 h rfl (zcB h hF qP rfl fun r4 w5 h hF=>zp2 rfl (qg (t:=20) hF rfl ?_ ?_))<;>intro hF
    ·refine X1 5 0 h rfl (zcB h hF qP rfl fun r5 w6 h hF=>zp2 rfl (qg (t:=25) hF rfl ?_ ?_))<;>intro hF
     ·exact X1 3 0 h rfl (zcB h hF (qhO (h.old ha1)) rfl fun r6 w7 h hF=>X0 3 rfl (rb h hF rfl))
     exact X0 5 rfl (rb h hF rfl)
    exact X0 10 rfl (rb h hF rfl)
   exact X0 15 rfl (rb h hF rfl)
  exact X0 19 rfl (rb h hF rfl)
 exact X0 24 rfl (rb h hF rfl)
def qbo (l:qh):Nat→(List ByteArray)→Int→Option (Flow Bool ((List ByteArray) × Int))
 | 0,_,_=>none
 | n+1,x1,i1 =>
  bif decide (i1<(l.Aj.length:Int)) then
   (idx l.Aj i1).bind fun y1 =>
   (qgZ n y1).bind fun r1 =>
   bif (!r1) then some (.ret false) else
   (appS x1 ([y1.Am]:List ByteArray)).bind fun x2 =>
   qbo l n x2 (W64 (i1+1))
  else
   some (.nxt (x1,i1))
def qfd (n:Nat) (l:qh):Option Bool :=
 (qbo l n ([]:List ByteArray) 0).bind fun o=>match o with
 | .ret r=>some r
 | .nxt (x1,_) =>
  bif decide ((l.Aj.length:Int)≤8) then
   (qce n x1).bind fun r2 =>
   some r2
  else
   some false
theorem qjb {l:qh} (ha1:Ro w l cs1) {r:Bool} (hF:qfd n l=some r):RetV Tryz.prog 109 [GoT.v qh cs1] w r:=by
 obtain ⟨p1,k1,rfl,s1⟩:=qZ ha1
 refine zV 30 Tryz.func109 rfl fun h=>zSR (qr h rfl rfl fun w1 bb1 h=>X1 14 0 h rfl ?_)
 replace h:=h.nil (α:=ByteArray)
 obtain ⟨o1,hF,hK1⟩:=qe hF
 refine ql (rL (fun m e w'=>∃ (S1:Nat→Prop) (p2:Option Addr) (ln1:Nat) (k2:Nat) (x1:(List ByteArray)) (i1:Int),qbo l m x1 i1=some o1∧e=[(1,.pointer (some ⟨bb1,0,none⟩)),(3,.slice p2 ln1 k2),(7,.slice p1 l.Aj.length k1),(8,.int .i64 (l.Aj.length:Int)),(9,.int .i64 i1)]∧SH w w' [Ch.own S1 (x1:List ByteArray) [.slice p2 ln1 k2],Ch.box bb1 [.slice p1 l.Aj.length k1] 41]) n ⟨_,_,_,_,_,_,hF,rfl,h⟩ rfl ?_)
 rintro m1 e1 w2 ⟨S1,p2,ln1,k2,x1,i1,hF,rfl,h⟩
 obtain rfl:=(h.sl 0 rfl).2
 rcases m1 with _|m1
 ·cases hF
 refine X0 5 rfl (qf rfl hF ?_ ?_)<;>intro hF
 ·refine zKSBSR ?_
  obtain ⟨y1,hy1,hF,he1,b1,_,q1,cs2,hp1,hq1,hr1,hc2⟩:=s1.ix hF
  obtain ⟨p3,k3,p4,k4,p5,k5,rfl,s2,s3,s4⟩:=qE hr1
  refine zxe hp1 hq1 he1 rfl (zc 0 (hc2.below h.below) rfl (qC qc h rfl rfl rfl fun w3 bb2 h=>zs 0 h rfl fun w4 h=>X1 5 0 h rfl (zcB h hF (qkO (qgv y1 (h.oldS s2) (h.oldS s3) (h.oldS s4))) rfl fun r1 w5 h hF=>X0 2 rfl (qf rfl hF ?_ ?_))))<;>intro hF
  ·refine X0 4 rfl ?_
   obtain rfl:=qa hF;replace hF:=hK1
   exact rb h hF rfl
  refine X1 5 0 h rfl (qT qc [.tmp 18] _ ([y1.Am]:List ByteArray) h rfl rfl rfl rfl rfl rfl rfl rfl rfl ⟨rfl,trivial⟩ rfl fun w6 p6 S2 h=>?_)
  obtain ⟨x2,hx1,hF⟩:=qe hF
  obtain ⟨g1,hx1⟩:=qaP hx1
  refine qdO qc 2 h rfl (h.sl 0 rfl).1 (h.sl 0 rfl).2 rfl rfl rfl rfl rfl rfl rfl rfl rfl g1 hx1 rfl fun w7 p7 k6 S3 h=>X0 7 rfl ?_
  replace h:=h.pick [2,3] rfl
  exact rK ⟨_,_,_,_,_,_,hF,rfl,h⟩ rfl
 refine qq rfl ?_
 obtain rfl:=qa hF;replace hF:=hK1
 refine X1 7 1 h rfl (qg (t:=26) hF rfl ?_ ?_)<;>intro hF
 ·exact X0 3 rfl (zcB h hF (qdj (h.own 0 rfl)) rfl fun r2 w8 h hF=>X0 3 rfl (rb h hF rfl))
 exact X0 5 rfl (rb h hF rfl)
def qay (d:qb):Nat→(List ByteArray)→Int→Option ((List ByteArray) × Int)
 | 0,_,_=>none
 | n+1,x3,i2 =>
  bif decide (i2<(d.Ac.length:Int)) then
   (idx d.Ac i2).bind fun y2 =>
   (appS x3 ([y2.Am]:List ByteArray)).bind fun x4 =>
   qay d n x4 (W64 (i2+1))
  else
   some (x3,i2)
def qau (d:qb):Nat→(List ByteArray)→Int→Option ((List ByteArray) × Int)
 | 0,_,_=>none
 | n+1,x1,i1 =>
  bif decide (i1<(d.Aa.length:Int)) then
   (idx d.Aa i1).bind fun y1 =>
   (appS x1 ([y1.Am]:List ByteArray)).bind fun x2 =>
   qau d n x2 (W64 (i1+1))
  else
   some (x1,i1)
def qcW (n:Nat) (d:qb):Option Bool :=
 (qau d n ([]:List ByteArray) 0).bind fun o=>match o with
 | (x1,_) =>
  (qay d n ([]:List ByteArray) 0).bind fun o=>match o with
  | (x3,_) =>
   bif decide ((x1.length:Int)≤14) then
    bif decide ((d.Af.length:Int)≤30) then
     bif decide ((x3.length:Int)≤8) then
      (qce n x1).bind fun r1 =>
      bif r1 then
       (qce n d.Af).bind fun r2 =>
       bif r2 then
        (qce n x3).bind fun r3 =>
        some r3
       else
        some false
      else
       some false
     else
      some false
    else
     some false
   else
    some false
theorem qhf {d:qb} (ha1:Ro w d cs1) {r:Bool} (hF:qcW n d=some r):RetV Tryz.prog 110 [GoT.v qb cs1] w r:=by
 obtain ⟨p1,k1,p2,k2,p3,k3,rfl,s1,s2,s3⟩:=qK ha1
 refine zV 62 Tryz.func110 rfl fun h=>zSR (qr h rfl rfl fun w1 bb1 h=>X1 15 0 h rfl ?_)
 replace h:=h.nil (α:=ByteArray)
 obtain ⟨o1,hF,hK1⟩:=qe hF
 refine ql (rL (fun m e w'=>∃ (S1:Nat→Prop) (p4:Option Addr) (ln1:Nat) (k4:Nat) (x1:(List ByteArray)) (i1:Int),qau d m x1 i1=some o1∧e=[(1,.pointer (some ⟨bb1,0,none⟩)),(3,.slice p4 ln1 k4),(4,.slice none 0 0),(10,.slice p1 d.Aa.length k1),(11,.int .i64 (d.Aa.length:Int)),(12,.int .i64 i1)]∧SH w w' [Ch.own S1 (x1:List ByteArray) [.slice p4 ln1 k4],Ch.box bb1 (qav d p1 p2 p3 k1 k2 k3) 45]) n ⟨_,_,_,_,_,_,hF,rfl,h⟩ rfl ?_)
 rintro m1 e1 w2 ⟨S1,p4,ln1,k4,x1,i1,hF,rfl,h⟩
 obtain rfl:=(h.sl 0 rfl).2
 rcases m1 with _|m1
 ·cases hF
 refine X0 5 rfl (qf rfl hF ?_ ?_)<;>intro hF
 ·refine zKSBSR ?_
  obtain ⟨y1,hy1,hF,he1,b1,_,q1,cs2,hp1,hq1,hr1,hc2⟩:=s1.ix hF
  obtain ⟨p5,k5,rfl,s4⟩:=qA hr1
  refine zxe hp1 hq1 he1 rfl (zc 0 (hc2.below h.below) rfl (qC qc h rfl rfl rfl fun w3 bb2 h=>zs 0 h rfl fun w4 h=>X1 5 0 h rfl (qT qc [.tmp 18] _ ([y1.Am]:List ByteArray) h rfl rfl rfl rfl rfl rfl rfl rfl rfl ⟨rfl,trivial⟩ rfl fun w5 p6 S2 h=>?_)))
  obtain ⟨x2,hx1,hF⟩:=qe hF
  obtain ⟨g1,hx1⟩:=qaP hx1
  refine qdO qc 2 h rfl (h.sl 0 rfl).1 (h.sl 0 rfl).2 rfl rfl rfl rfl rfl rfl rfl rfl rfl g1 hx1 rfl fun w6 p7 k6 S3 h=>X0 7 rfl ?_
  replace h:=h.pick [2,3] rfl
  exact rK ⟨_,_,_,_,_,_,hF,rfl,h⟩ rfl
 refine qq rfl ?_
 obtain rfl:=qa hF;replace hF:=hK1
 refine X1 8 1 h rfl ?_
 replace h:=h.nil (α:=ByteArray)
 obtain ⟨o2,hF,hK2⟩:=qe hF
 refine ql (rL (fun m e w'=>∃ (S4:Nat→Prop) (p8:Option Addr) (ln2:Nat) (k7:Nat) (x3:(List ByteArray)) (i2:Int),qay d m x3 i2=some o2∧e=[(1,.pointer (some ⟨bb1,0,none⟩)),(3,.slice p4 x1.length k4),(4,.slice p8 ln2 k7),(23,.slice p3 d.Ac.length k3),(24,.int .i64 (d.Ac.length:Int)),(25,.int .i64 i2)]∧SH w w' [Ch.own S4 (x3:List ByteArray) [.slice p8 ln2 k7],Ch.own S1 (x1:List ByteArray) [.slice p4 x1.length k4],Ch.box bb1 (qav d p1 p2 p3 k1 k2 k3) 45]) n ⟨_,_,_,_,_,_,hF,rfl,h⟩ rfl ?_)
 rintro m2 e2 w7 ⟨S4,p8,ln2,k7,x3,i2,hF,rfl,h⟩
 obtain rfl:=(h.sl 0 rfl).2
 rcases m2 with _|m2
 ·cases hF
 refine X0 5 rfl (qf rfl hF ?_ ?_)<;>intro hF
 ·refine zKSBSR ?_
  obtain ⟨y2,hy2,hF,he2,b2,_,q2,cs3,hp2,hq2,hr2,hc4⟩:=s3.ix hF
  obtain rfl:=qab hr2
  refine zxe hp2 hq2 he2 rfl (zc 0 (hc4.below h.below) rfl (qC qc h rfl rfl rfl fun w8 bb3 h=>zs 0 h rfl fun w9 h=>X1 5 0 h rfl (qT qc [.tmp 31] _ ([y2.Am]:List ByteArray) h rfl rfl rfl rfl rfl rfl rfl rfl rfl ⟨rfl,trivial⟩ rfl fun w10 p9 S5 h=>?_)))
  obtain ⟨x4,hx2,hF⟩:=qe hF
  obtain ⟨g2,hx2⟩:=qaP hx2
  refine qdO qc 2 h rfl (h.sl 0 rfl).1 (h.sl 0 rfl).2 rfl rfl rfl rfl rfl rfl rfl rfl rfl g2 hx2 rfl fun w11 p10 k8 S6 h=>X0 7 rfl ?_
  replace h:=h.pick [2,3,4] rfl
  exact rK ⟨_,_,_,_,_,_,hF,rfl,h⟩ rfl
 refine qq rfl ?_
 obtain rfl:=qa hF;replace hF:=hK2
 refine X0 6 rfl (qg (t:=38) hF rfl ?_ ?_)<;>intro hF
 ·refine X1 10 2 h rfl (qg (t:=44) hF rfl ?_ ?_)<;>intro hF
  ·refine X0 8 rfl (qg (t:=49) hF rfl ?_ ?_)<;>intro hF
   ·refine X0 3 rfl (zcB h hF (qdj (h.own 1 rfl)) rfl fun r1 w12 h hF=>zp2 rfl (qg (t:=53) hF rfl ?_ ?_))<;>intro hF
    ·refine X1 5 2 h rfl (zcB h hF (qdj ⟨_,_,rfl,(h.oldS s2)⟩) rfl fun r2 w13 h hF=>zp2 rfl (qg (t:=58) hF rfl ?_ ?_))<;>intro hF
     ·exact X0 3 rfl (zcB h hF (qdj (h.own 0 rfl)) rfl fun r3 w14 h hF=>X0 3 rfl (rb h hF rfl))
     exact X0 5 rfl (rb h hF rfl)
    exact X0 10 rfl (rb h hF rfl)
   exact X0 14 rfl (rb h hF rfl)
  exact X0 19 rfl (rb h hF rfl)
 exact X0 25 rfl (rb h hF rfl)
def qdQ (_:Nat) (list:(List qn)):Option Int :=
 some (list.length:Int)
theorem qha {list:(List qn)} (ha1:Ro w list cs1) {r:Int} (hF:qdQ n list=some r):RetV Tryz.prog 151 [GoT.v (List qn) cs1] w r:=by
 obtain ⟨p1,k1,rfl,s1⟩:=ha1
 exact zV 5 Tryz.func151 rfl fun h=>X0 10 rfl (ri h hF rfl)
def qeJ (_:Nat) (list:(List ByteArray)):Option Int :=
 some (list.length:Int)
theorem qhM {list:(List ByteArray)} (ha1:Ro w list cs1) {r:Int} (hF:qeJ n list=some r):RetV Tryz.prog 153 [GoT.v (List ByteArray) cs1] w r:=by
 obtain ⟨p1,k1,rfl,s1⟩:=ha1
 exact zV 5 Tryz.func153 rfl fun h=>X0 10 rfl (ri h hF rfl)
def qbU (n:Nat) (d:qb) (net:Int):Option Bool :=
 (qeJ n d.Af).bind fun r1 =>
 (qY n net 0 (W64 (r1-1))).bind fun r2 =>
 some r2
theorem qd8 {d:qb} {net:Int} (ha1:Ro w d cs1) {r:Bool} (hF:qbU n d net=some r):RetV Tryz.prog 112 [GoT.v qb cs1,.int .i64 net] w r:=by
 obtain ⟨p1,k1,p2,k2,p3,k3,rfl,s1,s2,s3⟩:=qK ha1
 exact zV 11 Tryz.func112 rfl fun h=>zSR (qr h rfl rfl fun w1 bb1 h=>X1 7 0 h rfl (zcI h hF (qhM ⟨_,_,rfl,(h.oldS s2)⟩) rfl fun r1 w2 h hF=>zp1 rfl (zcB h hF qP rfl fun r2 w3 h hF=>X0 2 rfl (rb h hF rfl))))
def qbI (n:Nat) (net:Int) (v0:qb):Option Bool :=
 (qbU n v0 net).bind fun r1 =>
 some (!r1)
theorem qgj {net:Int} {v0:qb} {p1:Option Addr} (ha1:Ro w (some v0) [.pointer p1]) {r:Bool} (hF:qbI n net v0=some r):RetV Tryz.prog 152 [.int .i64 net,.pointer p1] w r:=by
 obtain ⟨b1,o_1,cs1,rfl,-,hr1,hc1⟩:=PtR.get ha1 rfl
 obtain ⟨p2,k1,p3,k2,p4,k3,rfl,s1,s2,s3⟩:=qK hr1
 exact zV 8 Tryz.func152 rfl fun h=>X0 6 rfl (zc 0 (hc1.below h.below) rfl (zp1 rfl (zcB h hF (qd8 (qar v0 (h.oldS s1) (h.oldS s2) (h.oldS s3))) rfl fun r1 w1 h hF=>X0 3 rfl (rb h hF rfl))))
def qt (s:(List Int)) (f_0:qb):Nat→Int→Option (Flow Int Int)
 | 0,_=>none
 | n+1,i1 =>
  bif decide (i1<(s.length:Int)) then
   (idx s i1).bind fun y1 =>
   (qbI n y1 f_0).bind fun r1 =>
   bif r1 then some (.ret i1) else
   qt s f_0 n (W64 (i1+1))
  else
   some (.nxt i1)
def qal (n:Nat) (s:(List Int)) (f_0:qb):Option Int :=
 (qt s f_0 n 0).bind fun o=>match o with
 | .ret r=>some r
 | .nxt _ =>
  some (-1)
theorem qcu {s:(List Int)} {f_0:qb} (ha1:Ro w s cs1) {p2:Option Addr} (ha2:Ro w (some f_0) [.pointer p2]) {r:Int} (hF:qal n s f_0=some r):RetV Tryz.prog 155 [GoT.v (List Int) cs1,.func (.func 152) #[] #[.pointer p2]] w r:=by
 obtain ⟨p1,k1,rfl,s1⟩:=ha1
 obtain ⟨b1,o_1,cs2,rfl,-,hr1,hc1⟩:=PtR.get ha2 rfl
 obtain ⟨p3,k2,p4,k3,p5,k4,rfl,s2,s3,s4⟩:=qK hr1
 refine zV 19 Tryz.func155 rfl fun h=>X0 11 rfl ?_
 obtain ⟨o1,hF,hK1⟩:=qe hF
 refine ql (rL (fun m e w'=>∃ (i1:Int),qt s f_0 m i1=some o1∧e=[(0,.slice p1 s.length k1),(1,.func (.func 152) #[] #[.pointer (some ⟨b1,o_1,none⟩)]),(7,.int .i64 (s.length:Int)),(8,.int .i64 i1)]∧SH w w' []) n ⟨_,hF,rfl,h⟩ rfl ?_)
 rintro m1 e1 w1 ⟨i1,hF,rfl,h⟩
 rcases m1 with _|m1
 ·cases hF
 refine X0 5 rfl (qf rfl hF ?_ ?_)<;>intro hF
 ·refine X0 13 rfl ?_
  obtain ⟨y1,hy1,hF,he1,b2,_,q1,cs3,hp1,hq1,rfl,hc3⟩:=s1.ix hF
  refine zxe hp1 hq1 he1 rfl (zc 0 (hc3.below h.below) rfl (zcB h hF (qgj (h.old ha2)) rfl fun r1 w2 h hF=>qdy (qf rfl hF ?_ ?_)))<;>intro hF
  ·refine X0 5 rfl ?_
   obtain rfl:=qa hF;replace hF:=hK1
   exact ri h hF rfl
  exact X0 6 rfl (rK ⟨_,hF,rfl,h⟩ rfl)
 refine qq rfl ?_
 obtain rfl:=qa hF;replace hF:=hK1
 exact X0 4 rfl (ri h hF rfl)
def qX (n:Nat) (s:(List Int)) (f_0:qb):Option Bool :=
 (qal n s f_0).bind fun r1 =>
 some (decide (r1 ≥ 0))
theorem qb8 {s:(List Int)} {f_0:qb} (ha1:Ro w s cs1) {p2:Option Addr} (ha2:Ro w (some f_0) [.pointer p2]) {r:Bool} (hF:qX n s f_0=some r):RetV Tryz.prog 122 [GoT.v (List Int) cs1,.func (.func 152) #[] #[.pointer p2]] w r:=by
 obtain ⟨p1,k1,rfl,s1⟩:=ha1
 obtain ⟨b1,o_1,cs2,rfl,-,hr1,hc1⟩:=PtR.get ha2 rfl
 obtain ⟨p3,k2,p4,k3,p5,k4,rfl,s2,s3,s4⟩:=qK hr1
 exact zV 9 Tryz.func122 rfl fun h=>X0 8 rfl (zcI h hF (qcu ⟨_,_,rfl,(h.oldS s1)⟩ (h.old ha2)) rfl fun r1 w1 h hF=>X0 3 rfl (rb h hF rfl))
def qb9 (n:Nat) (d:qb) (l:qh) (x:qd):Option Bool :=
 (qdQ n l.Aj).bind fun r1 =>
 (qY n x.Be 0 (W64 (r1-1))).bind fun r2 =>
 bif r2 then
  (idx l.Aj x.Be).bind fun y1 =>
  bif ((x.Af.length:Int)==(y1.Ak.length:Int)) then
   (qX n x.Af d).bind fun r3 =>
   some (!r3)
  else
   some false
 else
  some false
theorem qgT {d:qb} {l:qh} {x:qd} (ha1:Ro w d cs1) (ha2:Ro w l cs2) (ha3:Ro w x cs3) {r:Bool} (hF:qb9 n d l x=some r):RetV Tryz.prog 111 [GoT.v qb cs1,GoT.v qh cs2,GoT.v qd cs3] w r:=by
 obtain ⟨p1,k1,p2,k2,p3,k3,rfl,s1,s2,s3⟩:=qK ha1
 obtain ⟨p4,k4,rfl,s4⟩:=qZ ha2
 obtain ⟨p5,k5,rfl,s5⟩:=qA ha3
 refine zV 35 Tryz.func111 rfl fun h=>zSR (qr h rfl rfl fun w1 bb1 h=>qr h rfl rfl fun w2 bb2 h=>qr h rfl rfl fun w3 bb3 h=>X0 3 rfl (rD (Y1 2 0 h rfl ?_)))
 refine Y1 2 1 h rfl ?_
 obtain ⟨r1,hr1,hF⟩:=qe hF
 refine qa4 r1 (vsI _) (cB 151 rfl) (fun _ hb=>qha ⟨_,_,rfl,((h.ext hb).oldS s4)⟩ hr1) rfl rfl rfl rfl (zd1 rfl ?_)
 obtain ⟨r2,hr2,hF⟩:=qe hF
 refine qa4 r2 (vsB _) (cB 115 rfl) (fun _ hb=>qP  hr2) rfl rfl rfl rfl (zd1 rfl (qaX (t:=14) hF rfl ?_ ?_))<;>intro hF
 ·refine Y1 4 0 h rfl ?_
  refine Y1 6 1 h rfl ?_
  refine Y1 4 0 h rfl ?_
  refine Y0 1 rfl ?_
  obtain ⟨y1,hy1,hF,he1,b1,_,q1,cs4,hp1,hq1,hr3,hc1⟩:=s4.ix hF
  obtain ⟨p6,k6,p7,k7,p8,k8,rfl,s6,s7,s8⟩:=qE hr3
  refine zdxe hp1 hq1 he1 rfl (Y0 3 rfl (zdc 2 (hc1.below h.below) rfl (Y0 6 rfl (qaX (t:=28) hF rfl ?_ ?_))))<;>intro hF
  ·refine Y1 4 0 h rfl ?_
   refine Y0 3 rfl ?_
   obtain ⟨r3,hr4,hF⟩:=qe hF
   exact qa4 r3 (vsB _) (cB 122 rfl) (fun _ hb=>qb8 ⟨_,_,rfl,((h.ext hb).oldS s5)⟩ (qhi (x:=d) 2 (h.ext hb) rfl ((h.ext hb).old ha1)) hr4) rfl rfl rfl rfl (Y0 4 rfl (dN h fun w4 h=>rb h hF rfl))
  exact Y0 7 rfl (dN h fun w5 h=>rb h hF rfl)
 exact Y0 21 rfl (dN h fun w6 h=>rb h hF rfl)
def qf2 (_:Nat) (a_n:Int):Option Bool :=
 some (a_n != 1)
theorem qiJ {a_n:Int}  {r:Bool} (hF:qf2 n a_n=some r):RetV Tryz.prog 114 [.int .i64 a_n] w r:=by
 exact zV 5 Tryz.func114 rfl fun h=>X0 10 rfl (rb h hF rfl)
def qG (s:(List Int)):Nat→Int→Option (Flow Int Int)
 | 0,_=>none
 | n+1,i1 =>
  bif decide (i1<(s.length:Int)) then
   (idx s i1).bind fun y1 =>
   (qf2 n y1).bind fun r1 =>
   bif r1 then some (.ret i1) else
   qG s n (W64 (i1+1))
  else
   some (.nxt i1)
def qaZ (n:Nat) (s:(List Int)):Option Int :=
 (qG s n 0).bind fun o=>match o with
 | .ret r=>some r
 | .nxt _ =>
  some (-1)
theorem qd0 {s:(List Int)} (ha1:Ro w s cs1) {r:Int} (hF:qaZ n s=some r):RetV Tryz.prog 154 [GoT.v (List Int) cs1,.func (.func 114) #[] #[]] w r:=by
 obtain ⟨p1,k1,rfl,s1⟩:=ha1
 refine zV 19 Tryz.func154 rfl fun h=>X0 11 rfl ?_
 obtain ⟨o1,hF,hK1⟩:=qe hF
 refine ql (rL (fun m e w'=>∃ (i1:Int),qG s m i1=some o1∧e=[(0,.slice p1 s.length k1),(1,.func (.func 114) #[] #[]),(7,.int .i64 (s.length:Int)),(8,.int .i64 i1)]∧SH w w' []) n ⟨_,hF,rfl,h⟩ rfl ?_)
 rintro m1 e1 w1 ⟨i1,hF,rfl,h⟩
 rcases m1 with _|m1
 ·cases hF
 refine X0 5 rfl (qf rfl hF ?_ ?_)<;>intro hF
 ·refine X0 13 rfl ?_
  obtain ⟨y1,hy1,hF,he1,b1,_,q1,cs2,hp1,hq1,rfl,hc2⟩:=s1.ix hF
  refine zxe hp1 hq1 he1 rfl (zc 0 (hc2.below h.below) rfl (zcB h hF qiJ rfl fun r1 w2 h hF=>qdy (qf rfl hF ?_ ?_)))<;>intro hF
  ·refine X0 5 rfl ?_
   obtain rfl:=qa hF;replace hF:=hK1
   exact ri h hF rfl
  exact X0 6 rfl (rK ⟨_,hF,rfl,h⟩ rfl)
 refine qq rfl ?_
 obtain rfl:=qa hF;replace hF:=hK1
 exact X0 4 rfl (ri h hF rfl)
def qaN (n:Nat) (s:(List Int)):Option Bool :=
 (qaZ n s).bind fun r1 =>
 some (decide (r1 ≥ 0))
theorem qdt {s:(List Int)} (ha1:Ro w s cs1) {r:Bool} (hF:qaN n s=some r):RetV Tryz.prog 113 [GoT.v (List Int) cs1,.func (.func 114) #[] #[]] w r:=by
 obtain ⟨p1,k1,rfl,s1⟩:=ha1
 exact zV 9 Tryz.func113 rfl fun h=>X0 8 rfl (zcI h hF (qd0 ⟨_,_,rfl,(h.oldS s1)⟩) rfl fun r1 w1 h hF=>X0 3 rfl (rb h hF rfl))
def qa6 (a_1:qb):Nat→(List Int)→Int→Option (Flow Bool ((List Int) × Int))
 | 0,_,_=>none
 | n+1,x3,i2 =>
  bif decide (i2<(a_1.Ac.length:Int)) then
   (idx a_1.Ac i2).bind fun y5 =>
   (
    bif (y5.Bl != 1) then
     bif (y5.Bl != 2) then some true else
     (qbU n a_1 y5.Bm).bind fun r2 =>
     some (!r2)
    else
     (qbU n a_1 y5.Bm).bind fun r3 =>
     some (!r3)).bind fun b7 =>
   bif b7 then some (.ret false) else
   bif (y5.Bl==1) then
    (idx x3 y5.Bm).bind fun y6 =>
    (idx x3 y5.Bm).bind fun _ =>
    qa6 a_1 n (setS x3 y5.Bm (W64 (y6+1))) (W64 (i2+1))
   else
    qa6 a_1 n x3 (W64 (i2+1))
  else
   some (.nxt (x3,i2))
def qbH (a_0:qh) (a_1:qb):Nat→(List Int)→Int→Option (Flow Bool ((List Int) × Int))
 | 0,_,_=>none
 | n+1,x2,i1 =>
  bif decide (i1<(a_1.Aa.length:Int)) then
   (idx a_1.Aa i1).bind fun y1 =>
   (qb9 n a_1 a_0 y1).bind fun r1 =>
   bif (!r1) then some (.ret false) else
   (idx y1.Af (W64 ((y1.Af.length:Int)-1))).bind fun y2 =>
   (idx x2 y2).bind fun y3 =>
   (idx x2 y2).bind fun _ =>
   qbH a_0 a_1 n (setS x2 y2 (W64 (y3+1))) (W64 (i1+1))
  else
   some (.nxt (x2,i1))
def qfx (n:Nat) (a_0:qh) (a_1:qb):Option Bool :=
 (
  (qfd n a_0).bind fun r5 =>
  bif (!r5) then some true else
  (qcW n a_1).bind fun r6 =>
  some (!r6)).bind fun b1 =>
 bif b1 then some false else
 (mkS (a_1.Af.length:Int) (0:Int)).bind fun x1 =>
 (qbH a_0 a_1 n x1 0).bind fun o=>match o with
 | .ret r=>some r
 | .nxt (x2,_) =>
  (qa6 a_1 n x2 0).bind fun o=>match o with
  | .ret r=>some r
  | .nxt (x3,_) =>
   (qaN n x3).bind fun r4 =>
   some (!r4)
theorem qjo {a_0:qh} {a_1:qb} (ha1:Ro w a_0 cs1) (ha2:Ro w a_1 cs2) {r:Bool} (hF:qfx n a_0 a_1=some r):RetV Tryz.prog 69 [GoT.v qh cs1,GoT.v qb cs2] w r:=by
 obtain ⟨p1,k1,rfl,s1⟩:=qZ ha1
 obtain ⟨p2,k2,p3,k3,p4,k4,rfl,s2,s3,s4⟩:=qK ha2
 refine zV 84 Tryz.func69 rfl fun h=>zSR (qr h rfl rfl fun w1 bb1 h=>qr h rfl rfl fun w2 bb2 h=>X0 4 rfl ?_)
 obtain ⟨KF2,hKF2,o4,hF,hK4⟩:=bindE hF
 refine qcX (fun e w'=>∃ (b1:Bool),KF2 b1=some r∧e=[(2,.pointer (some ⟨bb1,0,none⟩)),(3,.pointer (some ⟨bb2,0,none⟩)),(17,.bool b1)]∧SH w w' [Ch.box bb2 (qav a_1 p2 p3 p4 k2 k3 k4) 45,Ch.box bb1 [.slice p1 a_0.Aj.length k1] 41]) ?_ ?_
 ·refine X1 2 1 h rfl (zcB h hF (qjb (h.old ha1)) rfl fun r5 w17 h hF=>zp2 rfl (qg (t:=13) hF rfl ?_ ?_))<;>intro hF
  ·refine X0 5 rfl ?_
   obtain rfl:=qa hF
   exact rG ⟨_,hK4,rfl,h⟩ rfl
  refine X1 3 0 h rfl (zcB h hF (qhf (h.old ha2)) rfl fun r6 w18 h hF=>X0 4 rfl ?_)
  obtain rfl:=qa hF
  exact rG ⟨_,hK4,rfl,h⟩ rfl
 rintro e4 w19 ⟨b1,hF,rfl,h⟩
 subst hKF2
 refine qf rfl hF ?_ ?_<;>intro hF
 ·exact X0 4 rfl (rb h hF rfl)
 refine X1 6 0 h rfl ?_
 obtain ⟨x1,hx1,hF⟩:=qe hF
 obtain ⟨g1,g2,hx1⟩:=qb6 hx1
 refine qc2 qc Int h rfl rfl rfl rfl rfl rfl rfl rfl rfl g1 g2 hx1 rfl fun w3 S1 p5 h=>X1 10 1 h rfl ?_
 obtain ⟨o1,hF,hK1⟩:=qe hF
 refine ql (rL (fun m e w'=>∃ (x2:(List Int)) (i1:Int),qbH a_0 a_1 m x2 i1=some o1∧e=[(2,.pointer (some ⟨bb1,0,none⟩)),(3,.pointer (some ⟨bb2,0,none⟩)),(5,.slice p5 x1.length x1.length),(23,.slice p2 a_1.Aa.length k2),(24,.int .i64 (a_1.Aa.length:Int)),(25,.int .i64 i1)]∧SH w w' [Ch.own S1 (x2:List Int) [.slice p5 x1.length x1.length],Ch.box bb2 (qav a_1 p2 p3 p4 k2 k3 k4) 45,Ch.box bb1 [.slice p1 a_0.Aj.length k1] 41]) n ⟨_,_,hF,rfl,h⟩ rfl ?_)
 rintro m1 e1 w4 ⟨x2,i1,hF,rfl,h⟩
 rcases m1 with _|m1
 ·cases hF
 refine X0 5 rfl (qf rfl hF ?_ ?_)<;>intro hF
 ·refine zKSBSR ?_
  obtain ⟨y1,hy1,hF,he1,b2,_,q1,cs3,hp1,hq1,hr1,hc3⟩:=s2.ix hF
  obtain ⟨p6,k5,rfl,s5⟩:=qA hr1
  refine zxe hp1 hq1 he1 rfl (zc 0 (hc3.below h.below) rfl (qC qc h rfl rfl rfl fun w5 bb3 h=>zs 0 h rfl fun w6 h=>X3 7 2 3 0 h rfl (zcB h hF (qgT (h.old ha2) (h.old ha1) (qdM y1 (h.oldS s5))) rfl fun r1 w7 h hF=>X0 2 rfl (qf rfl hF ?_ ?_))))<;>intro hF
  ·refine X0 4 rfl ?_
   obtain rfl:=qa hF;replace hF:=hK1
   exact rb h hF rfl
  refine X2 9 0 0 h rfl ?_
  obtain ⟨y2,hy2,hF,he2,b3,_,q2,cs4,hp2,hq2,rfl,hc5⟩:=s5.ix hF
  refine zxe hp2 hq2 he2 rfl (zc 0 (hc5.below h.below) rfl ?_)
  obtain ⟨y3,hy3,hF,he3,b4,_,q3,cs5,hp3,hq3,rfl,hc6⟩:=(h.sl 1 rfl).1.ix hF
  refine zx hp3 hq3 ⟨he3.1,qap he3.2.1 (h.sl 1 rfl).2⟩ rfl (zc 0 hc6 rfl (zp1 rfl ?_))
  obtain ⟨y4,hy4,hF,he4,b5,_,q4,cs6,hp4,hq4,rfl,hc7⟩:=(h.sl 1 rfl).1.ix hF
  refine zx hp4 hq4 ⟨he4.1,qap he4.2.1 (h.sl 1 rfl).2⟩ rfl (qdU qc 1 0 (W64 (y3+1)) h rfl hy4 hp4 hq4 rfl hc7 rfl rfl rfl rfl rfl rfl rfl fun w8 h=>X0 6 rfl ?_)
  replace h:=h.pick [1,2,3] rfl
  exact rK ⟨_,_,hF,rfl,h⟩ rfl
 refine qq rfl ?_
 obtain rfl:=qa hF;replace hF:=hK1
 refine X1 8 1 h rfl ?_
 obtain ⟨o2,hF,hK2⟩:=qe hF
 refine ql ?_
 replace h:=h.pick [0,1] rfl
 refine rL (fun m e w'=>∃ (x3:(List Int)) (i2:Int),qa6 a_1 m x3 i2=some o2∧e=[(3,.pointer (some ⟨bb2,0,none⟩)),(5,.slice p5 x1.length x1.length),(49,.slice p4 a_1.Ac.length k4),(50,.int .i64 (a_1.Ac.length:Int)),(51,.int .i64 i2)]∧SH w w' [Ch.own S1 (x3:List Int) [.slice p5 x1.length x1.length],Ch.box bb2 (qav a_1 p2 p3 p4 k2 k3 k4) 45]) n ⟨_,_,hF,rfl,h⟩ rfl ?_
 rintro m2 e2 w9 ⟨x3,i2,hF,rfl,h⟩
 rcases m2 with _|m2
 ·cases hF
 refine X0 5 rfl (qf rfl hF ?_ ?_)<;>intro hF
 ·refine zKSBSR ?_
  obtain ⟨y5,hy5,hF,he5,b6,_,q5,cs7,hp5,hq5,hr6,hc9⟩:=s4.ix hF
  obtain rfl:=qab hr6
  refine zxe hp5 hq5 he5 rfl (zc 0 (hc9.below h.below) rfl (qC qc h rfl rfl rfl fun w10 bb4 h=>zs 0 h rfl fun w11 h=>zNSS ?_))
  obtain ⟨KF1,hKF1,o3,hF,hK3⟩:=bindE hF
  refine qcX (fun e w'=>∃ (b7:Bool),KF1 b7=some o2∧e=[(3,.pointer (some ⟨bb2,0,none⟩)),(5,.slice p5 x1.length x1.length),(9,.pointer (some ⟨bb4,0,none⟩)),(49,.slice p4 a_1.Ac.length k4),(50,.int .i64 (a_1.Ac.length:Int)),(51,.int .i64 i2),(69,.bool b7)]∧SH w w' [Ch.box bb4 (qkj y5) 172,Ch.own S1 (x3:List Int) [.slice p5 x1.length x1.length],Ch.box bb2 (qav a_1 p2 p3 p4 k2 k3 k4) 45]) ?_ ?_
  ·refine X1 5 0 h rfl (qg (t:=58) hF rfl ?_ ?_)<;>intro hF
   ·refine X1 8 0 h rfl (qg (t:=63) hF rfl ?_ ?_)<;>intro hF
    ·refine X0 7 rfl ?_
     obtain rfl:=qa hF
     exact rG ⟨_,hK3,rfl,h⟩ rfl
    refine X2 7 2 0 h rfl (zcB h hF (qd8 (h.old ha2)) rfl fun r2 w13 h hF=>X0 4 rfl ?_)
    obtain rfl:=qa hF
    exact rG ⟨_,hK3,rfl,h⟩ rfl
   refine X2 12 2 0 h rfl (zcB h hF (qd8 (h.old ha2)) rfl fun r3 w14 h hF=>X0 4 rfl ?_)
   obtain rfl:=qa hF
   exact rG ⟨_,hK3,rfl,h⟩ rfl
  rintro e3 w15 ⟨b7,hF,rfl,h⟩
  subst hKF1
  refine qf rfl hF ?_ ?_<;>intro hF
  ·refine X0 4 rfl ?_
   obtain rfl:=qa hF;replace hF:=hK2
   exact rb h hF rfl
  refine X1 7 0 h rfl (qf rfl hF ?_ ?_)<;>intro hF
  ·refine X1 4 0 h rfl ?_
   obtain ⟨y6,hy6,hF,he6,b8,_,q6,cs8,hp6,hq6,rfl,hc12⟩:=(h.sl 1 rfl).1.ix hF
   refine zx hp6 hq6 ⟨he6.1,qap he6.2.1 (h.sl 1 rfl).2⟩ rfl (zc 0 hc12 rfl (zp1 rfl ?_))
   obtain ⟨y7,hy7,hF,he7,b9,_,q7,cs9,hp7,hq7,rfl,hc13⟩:=(h.sl 1 rfl).1.ix hF
   refine zx hp7 hq7 ⟨he7.1,qap he7.2.1 (h.sl 1 rfl).2⟩ rfl (qdU qc 1 0 (W64 (y6+1)) h rfl hy7 hp7 hq7 rfl hc13 rfl rfl rfl rfl rfl rfl rfl fun w12 h=>X0 6 rfl ?_)
   replace h:=h.pick [1,2] rfl
   exact rK ⟨_,_,hF,rfl,h⟩ rfl
  refine X0 6 rfl ?_
  replace h:=h.pick [1,2] rfl
  exact rK ⟨_,_,hF,rfl,h⟩ rfl
 refine qq rfl ?_
 obtain rfl:=qa hF;replace hF:=hK2
 exact X0 3 rfl (zcB h hF (qdt (h.own 0 rfl)) rfl fun r4 w16 h hF=>X0 3 rfl (rb h hF rfl))
def qaJ (i1:Int) (y1:qd):Nat→(List Tplace)→Int→Option ((List Tplace) × Int)
 | 0,_,_=>none
 | n+1,x2,i2 =>
  bif decide (i2<(y1.Af.length:Int)) then
   (idx y1.Af i2).bind fun y2 =>
   (appS x2 ([(⟨i1,i2,y2,(i2==(W64 ((y1.Af.length:Int)-1)))⟩:Tplace)]:List Tplace)).bind fun x3 =>
   qaJ i1 y1 n x3 (W64 (i2+1))
  else
   some (x2,i2)
def qaM (d:qb):Nat→(List Tplace)→Int→Option ((List Tplace) × Int)
 | 0,_,_=>none
 | n+1,x4,i3 =>
  bif decide (i3<(d.Ac.length:Int)) then
   (idx d.Ac i3).bind fun y3 =>
   (appS x4 ([(⟨(-1),i3,y3.Bm,(y3.Bl==1)⟩:Tplace)]:List Tplace)).bind fun x5 =>
   qaM d n x5 (W64 (i3+1))
  else
   some (x4,i3)
def qaK (d:qb):Nat→(List Tplace)→Int→Option ((List Tplace) × Int)
 | 0,_,_=>none
 | n+1,x1,i1 =>
  bif decide (i1<(d.Aa.length:Int)) then
   (idx d.Aa i1).bind fun y1 =>
   (qaJ i1 y1 n x1 0).bind fun o=>match o with
   | (x2,_) =>
    qaK d n x2 (W64 (i1+1))
  else
   some (x1,i1)
def qa3 (n:Nat) (d:qb):Option (List Tplace) :=
 (qaK d n ([]:List Tplace) 0).bind fun o=>match o with
 | (x1,_) =>
  (qaM d n x1 0).bind fun o=>match o with
  | (x4,_) =>
   some x4
theorem qcw {d:qb} (ha1:Ro w d cs1) {r:(List Tplace)} (hF:qa3 n d=some r):RetV Tryz.prog 70 [GoT.v qb cs1] w r:=by
 obtain ⟨p1,k1,p2,k2,p3,k3,rfl,s1,s2,s3⟩:=qK ha1
 refine zV 61 Tryz.func70 rfl fun h=>zSR (qr h rfl rfl fun w1 bb1 h=>X1 14 0 h rfl ?_)
 replace h:=h.nil (α:=Tplace)
 obtain ⟨o1,hF,hK1⟩:=qe hF
 refine ql (rL (fun m e w'=>∃ (S1:Nat→Prop) (p4:Option Addr) (ln1:Nat) (k4:Nat) (x1:(List Tplace)) (i1:Int),qaK d m x1 i1=some o1∧e=[(1,.pointer (some ⟨bb1,0,none⟩)),(3,.slice p4 ln1 k4),(11,.slice p1 d.Aa.length k1),(12,.int .i64 (d.Aa.length:Int)),(13,.int .i64 i1)]∧SH w w' [Ch.own S1 (x1:List Tplace) [.slice p4 ln1 k4],Ch.box bb1 (qav d p1 p2 p3 k1 k2 k3) 45]) n ⟨_,_,_,_,_,_,hF,rfl,h⟩ rfl ?_)
 rintro m1 e1 w2 ⟨S1,p4,ln1,k4,x1,i1,hF,rfl,h⟩
 obtain rfl:=(h.sl 0 rfl).2
 rcases m1 with _|m1
 ·cases hF
 refine X0 5 rfl (qf rfl hF ?_ ?_)<;>intro hF
 ·refine X0 6 rfl ?_
  obtain ⟨y1,hy1,hF,he1,b1,_,q1,cs2,hp1,hq1,hr1,hc2⟩:=s1.ix hF
  obtain ⟨p5,k5,rfl,s4⟩:=qA hr1
  refine zxe hp1 hq1 he1 rfl (zc 0 (hc2.below h.below) rfl (qC qc h rfl rfl rfl fun w3 bb2 h=>zp1 rfl (zs 0 h rfl fun w4 h=>X1 8 0 h rfl ?_)))
  obtain ⟨o2,hF,hK2⟩:=qe hF
  refine ql (rL (fun m e w'=>∃ (S2:Nat→Prop) (p6:Option Addr) (ln2:Nat) (k6:Nat) (x2:(List Tplace)) (i2:Int),qaJ i1 y1 m x2 i2=some o2∧e=[(1,.pointer (some ⟨bb1,0,none⟩)),(3,.slice p6 ln2 k6),(4,.int .i64 i1),(5,.pointer (some ⟨bb2,0,none⟩)),(11,.slice p1 d.Aa.length k1),(12,.int .i64 (d.Aa.length:Int)),(13,.int .i64 i1),(19,.slice p5 y1.Af.length k5),(20,.int .i64 (y1.Af.length:Int)),(21,.int .i64 i2)]∧SH w w' [Ch.box bb2 (qfV y1 p5 k5) 121,Ch.own S2 (x2:List Tplace) [.slice p6 ln2 k6],Ch.box bb1 (qav d p1 p2 p3 k1 k2 k3) 45]) m1 ⟨_,_,_,_,_,_,hF,rfl,h⟩ rfl ?_)
  rintro m2 e2 w5 ⟨S2,p6,ln2,k6,x2,i2,hF,rfl,h⟩
  obtain rfl:=(h.sl 1 rfl).2
  rcases m2 with _|m2
  ·cases hF
  refine X0 5 rfl (qf rfl hF ?_ ?_)<;>intro hF
  ·refine X0 6 rfl ?_
   obtain ⟨y2,hy2,hF,he2,b2,_,q2,cs3,hp2,hq2,rfl,hc4⟩:=s4.ix hF
   refine zxe hp2 hq2 he2 rfl (zc 0 (hc4.below h.below) rfl (X1 14 0 h rfl (r_v (qeZ qc [0,1,2,3] [.tmp 27,.tmp 28,.tmp 29,.tmp 35] rfl rfl rfl rfl rfl rfl rfl rfl) rfl (qT qc [.tmp 36] _ ([(⟨i1,i2,y2,(i2==(W64 ((y1.Af.length:Int)-1)))⟩:Tplace)]:List Tplace) h rfl rfl rfl rfl rfl rfl rfl rfl rfl ⟨(qeM (⟨i1,i2,y2,(i2==(W64 ((y1.Af.length:Int)-1)))⟩:Tplace)),trivial⟩ rfl fun w6 p7 S3 h=>?_))))
   obtain ⟨x3,hx1,hF⟩:=qe hF
   obtain ⟨g1,hx1⟩:=qaP hx1
   refine qdO qc 2 h rfl (h.sl 0 rfl).1 (h.sl 0 rfl).2 rfl rfl rfl rfl rfl rfl rfl rfl rfl g1 hx1 rfl fun w7 p8 k7 S4 h=>X0 7 rfl ?_
   replace h:=h.pick [1,2,3] rfl
   exact rK ⟨_,_,_,_,_,_,hF,rfl,h⟩ rfl
  refine qq rfl ?_
  obtain rfl:=qa hF;replace hF:=hK2
  refine X0 5 rfl ?_
  replace h:=h.pick [1,2] rfl
  exact rK ⟨_,_,_,_,_,_,hF,rfl,h⟩ rfl
 refine qq rfl ?_
 obtain rfl:=qa hF;replace hF:=hK1
 refine X1 8 1 h rfl ?_
 obtain ⟨o3,hF,hK3⟩:=qe hF
 refine ql ?_
 replace h:=h.pick [0] rfl
 refine rL (fun m e w'=>∃ (S5:Nat→Prop) (p9:Option Addr) (ln3:Nat) (k8:Nat) (x4:(List Tplace)) (i3:Int),qaM d m x4 i3=some o3∧e=[(3,.slice p9 ln3 k8),(42,.slice p3 d.Ac.length k3),(43,.int .i64 (d.Ac.length:Int)),(44,.int .i64 i3)]∧SH w w' [Ch.own S5 (x4:List Tplace) [.slice p9 ln3 k8]]) n ⟨_,_,_,_,_,_,hF,rfl,h⟩ rfl ?_
 rintro m3 e3 w8 ⟨S5,p9,ln3,k8,x4,i3,hF,rfl,h⟩
 obtain rfl:=(h.sl 0 rfl).2
 rcases m3 with _|m3
 ·cases hF
 refine X0 5 rfl (qf rfl hF ?_ ?_)<;>intro hF
 ·refine X0 6 rfl ?_
  obtain ⟨y3,hy3,hF,he3,b3,_,q3,cs4,hp3,hq3,hr3,hc6⟩:=s3.ix hF
  obtain rfl:=qab hr3
  refine zxe hp3 hq3 he3 rfl (zc 0 (hc6.below h.below) rfl (qC qc h rfl rfl rfl fun w9 bb3 h=>zp1 rfl (zs 0 h rfl fun w10 h=>X2 9 0 0 h rfl (r_v (qeZ qc [0,1,2,3] [.const (.int .i64 (-1)),.tmp 50,.tmp 52,.tmp 55] rfl rfl rfl rfl rfl rfl rfl rfl) rfl (qT qc [.tmp 56] _ ([(⟨(-1),i3,y3.Bm,(y3.Bl==1)⟩:Tplace)]:List Tplace) h rfl rfl rfl rfl rfl rfl rfl rfl rfl ⟨(qeM (⟨(-1),i3,y3.Bm,(y3.Bl==1)⟩:Tplace)),trivial⟩ rfl fun w11 p10 S6 h=>?_)))))
  obtain ⟨x5,hx2,hF⟩:=qe hF
  obtain ⟨g2,hx2⟩:=qaP hx2
  refine qdO qc 2 h rfl (h.sl 0 rfl).1 (h.sl 0 rfl).2 rfl rfl rfl rfl rfl rfl rfl rfl rfl g2 hx2 rfl fun w12 p11 k9 S7 h=>X0 7 rfl ?_
  replace h:=h.pick [2] rfl
  exact rK ⟨_,_,_,_,_,_,hF,rfl,h⟩ rfl
 refine qq rfl ?_
 obtain rfl:=qa hF;replace hF:=hK3
 refine X0 5 rfl ?_
 obtain rfl:=qa hF
 exact rO 0 h rfl ⟨rfl,trivial⟩
def qat (a_w:qD):Nat→Int→Option (Flow Bool Int)
 | 0,_=>none
 | n+1,i1 =>
  bif decide (i1<(a_w.Ai.length:Int)) then
   (idx a_w.Ai i1).bind fun y1 =>
   bif (i1==0) then
    bif (y1 != (-1)) then some (.ret false) else
    (idx a_w.Bn 0).bind fun y2 =>
    bif (y2 != 0) then some (.ret false) else
    bif decide (i1 > 0) then
     (qY n y1 0 (W64 (i1-1))).bind fun r1 =>
     bif (!r1) then some (.ret false) else
     qat a_w n (W64 (i1+1))
    else
     qat a_w n (W64 (i1+1))
   else
    bif decide (i1 > 0) then
     (qY n y1 0 (W64 (i1-1))).bind fun r2 =>
     bif (!r2) then some (.ret false) else
     qat a_w n (W64 (i1+1))
    else
     qat a_w n (W64 (i1+1))
  else
   some (.nxt i1)
def qec (n:Nat) (a_w:qD):Option Bool :=
 (qat a_w n 0).bind fun o=>match o with
 | .ret r=>some r
 | .nxt _ =>
  some true
theorem qiC {a_w:qD} (ha1:Ro w a_w cs1) {r:Bool} (hF:qec n a_w=some r):RetV Tryz.prog 116 [GoT.v qD cs1] w r:=by
 obtain ⟨p1,k1,p2,k2,p3,k3,p4,k4,rfl,s1,s2,s3,s4⟩:=qaL ha1
 refine zV 38 Tryz.func116 rfl fun h=>zSR (qr h rfl rfl fun w1 bb1 h=>X1 10 0 h rfl ?_)
 obtain ⟨o1,hF,hK1⟩:=qe hF
 refine ql (rL (fun m e w'=>∃ (i1:Int),qat a_w m i1=some o1∧e=[(1,.pointer (some ⟨bb1,0,none⟩)),(6,.slice p1 a_w.Ai.length k1),(7,.int .i64 (a_w.Ai.length:Int)),(8,.int .i64 i1)]∧SH w w' [Ch.box bb1 (qeT a_w p1 p2 p3 p4 k1 k2 k3 k4) 109]) n ⟨_,hF,rfl,h⟩ rfl ?_)
 rintro m1 e1 w2 ⟨i1,hF,rfl,h⟩
 rcases m1 with _|m1
 ·cases hF
 refine X0 5 rfl (qf rfl hF ?_ ?_)<;>intro hF
 ·refine X0 6 rfl ?_
  obtain ⟨y1,hy1,hF,he1,b1,_,q1,cs2,hp1,hq1,rfl,hc2⟩:=s1.ix hF
  refine zxe hp1 hq1 he1 rfl (zc 0 (hc2.below h.below) rfl (X0 8 rfl (qg (t:=15) hF rfl ?_ ?_)))<;>intro hF
  ·refine X0 6 rfl (qg (t:=18) hF rfl ?_ ?_)<;>intro hF
   ·refine X0 20 rfl (qc3 rfl rfl (X0 4 rfl ?_))
    obtain rfl:=qa hF;replace hF:=hK1
    exact rb h hF rfl
   refine X1 5 0 h rfl ?_
   obtain ⟨y2,hy2,hF,he2,b2,_,q2,cs3,hp2,hq2,rfl,hc3⟩:=s2.ix hF
   refine zxe hp2 hq2 he2 rfl (X0 1 rfl (zc 0 (hc3.below h.below) rfl (X0 6 rfl (qg (t:=26) hF rfl ?_ ?_))))<;>intro hF
   ·refine X0 11 rfl (qc3 rfl rfl (X0 4 rfl ?_))
    obtain rfl:=qa hF;replace hF:=hK1
    exact rb h hF rfl
   refine X0 6 rfl (qg (t:=29) hF rfl ?_ ?_)<;>intro hF
   ·refine X0 7 rfl (zcB h hF qP rfl fun r1 w3 h hF=>X0 6 rfl (qf rfl hF ?_ ?_))<;>intro hF
    ·refine X0 4 rfl ?_
     obtain rfl:=qa hF;replace hF:=hK1
     exact rb h hF rfl
    exact X0 6 rfl (rK ⟨_,hF,rfl,h⟩ rfl)
   exact X0 9 rfl (qem rfl rfl (X0 6 rfl (rK ⟨_,hF,rfl,h⟩ rfl)))
  refine X0 17 rfl (qg (t:=29) hF rfl ?_ ?_)<;>intro hF
  ·refine X0 7 rfl (zcB h hF qP rfl fun r2 w4 h hF=>X0 6 rfl (qf rfl hF ?_ ?_))<;>intro hF
   ·refine X0 4 rfl ?_
    obtain rfl:=qa hF;replace hF:=hK1
    exact rb h hF rfl
   exact X0 6 rfl (rK ⟨_,hF,rfl,h⟩ rfl)
  exact X0 9 rfl (qem rfl rfl (X0 6 rfl (rK ⟨_,hF,rfl,h⟩ rfl)))
 refine qq rfl ?_
 obtain rfl:=qa hF;replace hF:=hK1
 exact X0 4 rfl (rb h hF rfl)
def qg4 (n:Nat) (a_w:qD) (sinks:Int):Option Bool :=
 (qaA n a_w.Ai).bind fun r1 =>
 (qY n r1 1 8).bind fun r2 =>
 bif r2 then
  (qaA n a_w.Bn).bind fun r3 =>
  bif (r3==r1) then
   (qaA n a_w.Bj).bind fun r4 =>
   bif (r4==r1) then
    (qec n a_w).bind fun r5 =>
    bif r5 then
     (qaU n a_w.Bn 0 1000).bind fun r6 =>
     bif r6 then
      (qaU n a_w.Bj 0 500).bind fun r7 =>
      bif r7 then
       (qaA n a_w.Bc).bind fun r8 =>
       bif (r8==sinks) then
        (qaU n a_w.Bc 0 (W64 (r1-1))).bind fun r9 =>
        some r9
       else
        some false
      else
       some false
     else
      some false
    else
     some false
   else
    some false
  else
   some false
 else
  some false
theorem qkT {a_w:qD} {sinks:Int} (ha1:Ro w a_w cs1) {r:Bool} (hF:qg4 n a_w sinks=some r):RetV Tryz.prog 71 [GoT.v qD cs1,.int .i64 sinks] w r:=by
 obtain ⟨p1,k1,p2,k2,p3,k3,p4,k4,rfl,s1,s2,s3,s4⟩:=qaL ha1
 refine zV 53 Tryz.func71 rfl fun h=>zSR (qr h rfl rfl fun w1 bb1 h=>X1 6 0 h rfl (zcI h hF (qa5 ⟨_,_,rfl,(h.oldS s1)⟩) rfl fun r1 w2 h hF=>X0 5 rfl (zcB h hF qP rfl fun r2 w3 h hF=>zp1 rfl (qg (t:=11) hF rfl ?_ ?_))))<;>intro hF
 ·refine X1 5 0 h rfl (zcI h hF (qa5 ⟨_,_,rfl,(h.oldS s2)⟩) rfl fun r3 w4 h hF=>X0 6 rfl (qg (t:=18) hF rfl ?_ ?_))<;>intro hF
  ·refine X1 5 0 h rfl (zcI h hF (qa5 ⟨_,_,rfl,(h.oldS s3)⟩) rfl fun r4 w5 h hF=>X0 6 rfl (qg (t:=25) hF rfl ?_ ?_))<;>intro hF
   ·refine X1 3 0 h rfl (zcB h hF (qiC (h.old ha1)) rfl fun r5 w6 h hF=>zp2 rfl (qg (t:=29) hF rfl ?_ ?_))<;>intro hF
    ·refine X1 5 0 h rfl (zcB h hF (qbg ⟨_,_,rfl,(h.oldS s2)⟩) rfl fun r6 w7 h hF=>zp2 rfl (qg (t:=34) hF rfl ?_ ?_))<;>intro hF
     ·refine X1 5 0 h rfl (zcB h hF (qbg ⟨_,_,rfl,(h.oldS s3)⟩) rfl fun r7 w8 h hF=>zp2 rfl (qg (t:=39) hF rfl ?_ ?_))<;>intro hF
      ·refine X1 5 0 h rfl (zcI h hF (qa5 ⟨_,_,rfl,(h.oldS s4)⟩) rfl fun r8 w9 h hF=>X0 6 rfl (qg (t:=46) hF rfl ?_ ?_))<;>intro hF
       ·exact X1 9 0 h rfl (zcB h hF (qbg ⟨_,_,rfl,(h.oldS s4)⟩) rfl fun r9 w10 h hF=>X0 3 rfl (rb h hF rfl))
       exact X0 8 rfl (rb h hF rfl)
      exact X0 15 rfl (rb h hF rfl)
     exact X0 20 rfl (rb h hF rfl)
    exact X0 25 rfl (rb h hF rfl)
   exact X0 29 rfl (rb h hF rfl)
  exact X0 36 rfl (rb h hF rfl)
 exact X0 43 rfl (rb h hF rfl)
def qcK (b:qm) (x2:(List Int)):Nat→Int→Option (Flow Bool Int)
 | 0,_=>none
 | n+1,i2 =>
  bif decide (i2<(b.Ah.length:Int)) then
   (idx b.Ah i2).bind fun y4 =>
   (idx x2 i2).bind fun y5 =>
   (qg4 n y4 y5).bind fun r2 =>
   bif (!r2) then some (.ret false) else
   qcK b x2 n (W64 (i2+1))
  else
   some (.nxt i2)
def qbx (r1:(List Tplace)):Nat→(List Int)→Int→Option ((List Int) × Int)
 | 0,_,_=>none
 | n+1,x2,i1 =>
  bif decide (i1<(r1.length:Int)) then
   (idx r1 i1).bind fun y1 =>
   bif (!y1.drives) then
    (idx x2 y1.net).bind fun y2 =>
    (idx x2 y1.net).bind fun _ =>
    qbx r1 n (setS x2 y1.net (W64 (y2+1))) (W64 (i1+1))
   else
    qbx r1 n x2 (W64 (i1+1))
  else
   some (x2,i1)
def qge (n:Nat) (b:qm):Option Bool :=
 (
  (qfx n (⟨b.Aq.Aj⟩:qh) (⟨b.Ab.Aa,b.Ab.Af,b.Ab.Ac⟩:qb)).bind fun r3 =>
  bif (!r3) then some true else
  some ((b.Ah.length:Int) != (b.Ab.Af.length:Int))).bind fun b1 =>
 bif b1 then some false else
 (mkS (b.Ah.length:Int) (0:Int)).bind fun x1 =>
 (qa3 n (⟨b.Ab.Aa,b.Ab.Af,b.Ab.Ac⟩:qb)).bind fun r1 =>
 (qbx r1 n x1 0).bind fun o=>match o with
 | (x2,_) =>
  (qcK b x2 n 0).bind fun o=>match o with
  | .ret r=>some r
  | .nxt _ =>
   some true
theorem qj7 {b:qm} (ha1:Ro w b cs1) {r:Bool} (hF:qge n b=some r):RetV Tryz.prog 36 [GoT.v qm cs1] w r:=by
 obtain ⟨p1,k1,p2,k2,p3,k3,p4,k4,p5,k5,rfl,s1,s2,s3,s4,s5⟩:=qU ha1
 refine zV 63 Tryz.func36 rfl fun h=>zSR (qr h rfl rfl fun w1 bb1 h=>X0 4 rfl ?_)
 obtain ⟨KF1,hKF1,o3,hF,hK3⟩:=bindE hF
 refine qcX (fun e w'=>∃ (b1:Bool),KF1 b1=some r∧e=[(1,.pointer (some ⟨bb1,0,none⟩)),(23,.bool b1)]∧SH w w' [Ch.box bb1 (qb5 b p1 p2 p3 p4 p5 k1 k2 k3 k4 k5) 48]) ?_ ?_
 ·refine X2 5 0 0 h rfl (zcB h hF (qjo (qbk _ (h.oldS s1)) (qar _ (h.oldS s2) (h.oldS s3) (h.oldS s4))) rfl fun r3 w12 h hF=>zp2 rfl (qg (t:=14) hF rfl ?_ ?_))<;>intro hF
  ·refine X0 10 rfl ?_
   obtain rfl:=qa hF
   exact rG ⟨_,hK3,rfl,h⟩ rfl
  refine X2 18 0 0 h rfl ?_
  obtain rfl:=qa hF
  exact rG ⟨_,hK3,rfl,h⟩ rfl
 rintro e3 w13 ⟨b1,hF,rfl,h⟩
 subst hKF1
 refine qf rfl hF ?_ ?_<;>intro hF
 ·exact X0 4 rfl (rb h hF rfl)
 refine X1 6 0 h rfl ?_
 obtain ⟨x1,hx1,hF⟩:=qe hF
 obtain ⟨g1,g2,hx1⟩:=qb6 hx1
 refine qc2 qc Int h rfl rfl rfl rfl rfl rfl rfl rfl rfl g1 g2 hx1 rfl fun w2 S1 p6 h=>X1 7 1 h rfl (zcL h hF (qcw (qar _ (h.oldS s2) (h.oldS s3) (h.oldS s4))) rfl fun r1 w3 S2 p7 k6 h hF=>X0 3 rfl ?_)
 obtain ⟨o1,hF,hK1⟩:=qe hF
 refine ql (rL (fun m e w'=>∃ (x2:(List Int)) (i1:Int),qbx r1 m x2 i1=some o1∧e=[(1,.pointer (some ⟨bb1,0,none⟩)),(3,.slice p6 x1.length x1.length),(30,.slice p7 r1.length k6),(31,.int .i64 (r1.length:Int)),(32,.int .i64 i1)]∧SH w w' [Ch.own S2 (r1:List Tplace) [.slice p7 r1.length k6],Ch.own S1 (x2:List Int) [.slice p6 x1.length x1.length],Ch.box bb1 (qb5 b p1 p2 p3 p4 p5 k1 k2 k3 k4 k5) 48]) n ⟨_,_,hF,rfl,h⟩ rfl ?_)
 rintro m1 e1 w4 ⟨x2,i1,hF,rfl,h⟩
 rcases m1 with _|m1
 ·cases hF
 refine X0 5 rfl (qf rfl hF ?_ ?_)<;>intro hF
 ·refine zKSBSR ?_
  obtain ⟨y1,hy1,hF,he1,b2,_,q1,cs2,hp1,hq1,hr2,hc3⟩:=(h.sl 0 rfl).1.ix hF
  obtain rfl:=qea hr2
  refine zx hp1 hq1 ⟨he1.1,qap he1.2.1 (h.sl 0 rfl).2⟩ rfl (zc 0 hc3 rfl (qC qc h rfl rfl rfl fun w5 bb2 h=>zs 0 h rfl fun w6 h=>X1 7 0 h rfl (qf rfl hF ?_ ?_)))<;>intro hF
  ·refine X1 4 0 h rfl ?_
   obtain ⟨y2,hy2,hF,he2,b3,_,q2,cs3,hp2,hq2,rfl,hc5⟩:=(h.sl 2 rfl).1.ix hF
   refine zx hp2 hq2 ⟨he2.1,qap he2.2.1 (h.sl 2 rfl).2⟩ rfl (zc 0 hc5 rfl (zp1 rfl ?_))
   obtain ⟨y3,hy3,hF,he3,b4,_,q3,cs4,hp3,hq3,rfl,hc6⟩:=(h.sl 2 rfl).1.ix hF
   refine zx hp3 hq3 ⟨he3.1,qap he3.2.1 (h.sl 2 rfl).2⟩ rfl (qdU qc 2 0 (W64 (y2+1)) h rfl hy3 hp3 hq3 rfl hc6 rfl rfl rfl rfl rfl rfl rfl fun w7 h=>X0 6 rfl ?_)
   replace h:=h.pick [1,2,3] rfl
   exact rK ⟨_,_,hF,rfl,h⟩ rfl
  refine X0 6 rfl ?_
  replace h:=h.pick [1,2,3] rfl
  exact rK ⟨_,_,hF,rfl,h⟩ rfl
 refine qq rfl ?_
 obtain rfl:=qa hF;replace hF:=hK1
 refine X1 8 2 h rfl ?_
 obtain ⟨o2,hF,hK2⟩:=qe hF
 refine ql ?_
 replace h:=h.pick [1] rfl
 refine rL (fun m e w'=>∃ (i2:Int),qcK b x2 m i2=some o2∧e=[(3,.slice p6 x1.length x1.length),(48,.slice p5 b.Ah.length k5),(49,.int .i64 (b.Ah.length:Int)),(50,.int .i64 i2)]∧SH w w' [Ch.own S1 (x2:List Int) [.slice p6 x1.length x1.length]]) n ⟨_,hF,rfl,h⟩ rfl ?_
 rintro m2 e2 w8 ⟨i2,hF,rfl,h⟩
 rcases m2 with _|m2
 ·cases hF
 refine X0 5 rfl (qf rfl hF ?_ ?_)<;>intro hF
 ·refine X0 6 rfl ?_
  obtain ⟨y4,hy4,hF,he4,b5,_,q4,cs5,hp4,hq4,hr5,hc8⟩:=s5.ix hF
  obtain ⟨p8,k7,p9,k8,p10,k9,p11,k10,rfl,s6,s7,s8,s9⟩:=qaL hr5
  refine zxe hp4 hq4 he4 rfl (zc 0 (hc8.below h.below) rfl (qC qc h rfl rfl rfl fun w9 bb3 h=>zp1 rfl (zs 0 h rfl fun w10 h=>zNS (rD (Y1 1 0 h rfl ?_)))))
  refine zd2 rfl ?_
  obtain ⟨y5,hy5,hF,he5,b6,_,q5,cs6,hp5,hq5,rfl,hc9⟩:=(h.sl 1 rfl).1.ix hF
  refine zdx hp5 hq5 ⟨he5.1,qap he5.2.1 (h.sl 1 rfl).2⟩ rfl (zdc 0 hc9 rfl ?_)
  obtain ⟨r2,hr7,hF⟩:=qe hF
  refine qa4 r2 (vsB _) (cB 71 rfl) (fun _ hb=>qkT (qgu y4 ((h.ext hb).oldS s6) ((h.ext hb).oldS s7) ((h.ext hb).oldS s8) ((h.ext hb).oldS s9)) hr7) rfl rfl rfl rfl (zd1 rfl (dN h fun w11 h=>qf rfl hF ?_ ?_))<;>intro hF
  ·refine X0 4 rfl ?_
   obtain rfl:=qa hF;replace hF:=hK2
   exact rb h hF rfl
  refine X0 6 rfl ?_
  replace h:=h.pick [1] rfl
  exact rK ⟨_,hF,rfl,h⟩ rfl
 refine qq rfl ?_
 obtain rfl:=qa hF;replace hF:=hK2
 exact X0 4 rfl (rb h hF rfl)
end Go.Fw


namespace Go.Fw
open Go
def qbe (a:(List Int)):Nat:=a.length
theorem qbt {a:(List Int)} (h:(rngL rngI) a) (w:qbe a≤1048576):(okL okI) a :=
 ⟨by simp only [qbe] at w;omega,fun x hx=>h.2 x hx⟩
def qeP (x:qp):Prop:=(rngL rngI) x.Ba∧(rngL rngI) x.Bb∧(rngL rngI) x.As
def qdq (x:qp):Nat:=qbe x.Ba+qbe x.Bb+qbe x.As
structure qe0 (x:qp):Prop where
 Ba:(okL okI) x.Ba
 Bb:(okL okI) x.Bb
 As:(okL okI) x.As
theorem qni {x:qp} (h:qeP x) (w:qdq x≤1048576):qe0 x:=⟨qbt (h.1) (by simp only [qdq] at w;omega),qbt (h.2.1) (by simp only [qdq] at w;omega),qbt (h.2.2) (by simp only [qdq] at w;omega)⟩
def qdF (a:(List qp)):Nat:=a.length+(a.map fun x=>qdq x).sum
theorem qjK {a:(List qp)} (h:(rngL qeP) a) (w:qdF a≤1048576):(okL qe0) a :=
 ⟨by simp only [qdF] at w;omega,fun x hx=>qni (h.2 x hx) (by have:=qcx (wt:=fun x:qp=>qdq x) hx;simp only [qdF] at w;omega)⟩
def qhz (x:qH):Prop:=rngI x.Ap∧rngI x.Av∧rngI x.To∧rngI x.Bf∧(rngL qeP) x.Bd∧(rngL qeP) x.Bk
def qg0 (x:qH):Nat:=qdF x.Bd+qdF x.Bk
structure qiN (x:qH):Prop where
 Ap:okI x.Ap
 Av:okI x.Av
 To:okI x.To
 Bf:okI x.Bf
 Bd:(okL qe0) x.Bd
 Bk:(okL qe0) x.Bk
theorem qo4 {x:qH} (h:qhz x) (w:qg0 x≤1048576):qiN x:=⟨h.1,h.2.1,h.2.2.1,h.2.2.2.1,qjK (h.2.2.2.2.1) (by simp only [qg0] at w;omega),qjK (h.2.2.2.2.2) (by simp only [qg0] at w;omega)⟩
theorem qcC {a:(List Int)} (h:qbe a≤1048576):Ev (fun n=>qan n a a) true:=by
 have hl:a.length≤1048576:=by simp only [qbe] at h;omega
 unfold qan
 exact Ev.ff (by simp) (Ev.bind (b:=.nxt (a.length:Int)) (qgn (eqf:=fun _ x y=>some (!(x != y))) (fun x _=>Ev.now (by simp))
  (fun n=>by simp only [qdk,qj (je _),cond_false])
  (fun n j x hx=>by
   have hj:=(List.getElem?_eq_some_iff.1 hx).1
   simp only [qdk,qi hj,cond_true,qah hx,jd,Bool.not_not,wS j])) .done)
theorem qpa {a:qp} (h:qdq a≤1048576):Ev (fun n=>qeX n a a) true:=by
 unfold qeX
 simp only [qdq] at h
 exact Ev.bind (qcC (a:=a.Ba) (by omega)) (Ev.ff rfl (Ev.bind (qcC (a:=a.Bb) (by omega)) (Ev.ff rfl (Ev.bind (qcC (a:=a.As) (by omega)) (Ev.ff rfl (.done))))))
theorem qlF {a:(List qp)} (h:qdF a≤1048576):Ev (fun n=>qeB n a a) true:=by
 have hl:a.length≤1048576:=by simp only [qdF] at h;omega
 unfold qeB
 exact Ev.ff (by simp) (Ev.bind (b:=.nxt (a.length:Int)) (qgn (eqf:=qeX) (fun x hx=>qpa (by have:=qcx (wt:=fun x:qp=>qdq x) hx;simp only [qdF] at h;omega))
  (fun n=>by simp only [qdc,qj (je _),cond_false])
  (fun n j x hx=>by
   have hj:=(List.getElem?_eq_some_iff.1 hx).1
   simp only [qdc,qi hj,cond_true,qah hx,jd,wS j])) .done)
theorem qqd {a:qH} (h:qg0 a≤1048576):Ev (fun n=>qgK n a a) true:=by
 unfold qgK
 simp only [qg0] at h
 exact Ev.ff qa1 (Ev.ff qa1 (Ev.ff qa1 (Ev.ff qa1 (Ev.bind (qlF (a:=a.Bd) (by omega)) (Ev.ff rfl (Ev.bind (qlF (a:=a.Bk) (by omega)) (Ev.ff rfl (.done))))))))
def qgx (a:(List qH)):Nat:=a.length+(a.map fun x=>qg0 x).sum
theorem qnX {a:(List qH)} (h:(rngL qhz) a) (w:qgx a≤1048576):(okL qiN) a :=
 ⟨by simp only [qgx] at w;omega,fun x hx=>qo4 (h.2 x hx) (by have:=qcx (wt:=fun x:qH=>qg0 x) hx;simp only [qgx] at w;omega)⟩
theorem qpp {a:(List qH)} (h:qgx a≤1048576):Ev (fun n=>qgW n a a) true:=by
 have hl:a.length≤1048576:=by simp only [qgx] at h;omega
 unfold qgW
 exact Ev.ff (by simp) (Ev.bind (b:=.nxt (a.length:Int)) (qgn (eqf:=qgK) (fun x hx=>qqd (by have:=qcx (wt:=fun x:qH=>qg0 x) hx;simp only [qgx] at h;omega))
  (fun n=>by simp only [qd7,qj (je _),cond_false])
  (fun n j x hx=>by
   have hj:=(List.getElem?_eq_some_iff.1 hx).1
   simp only [qd7,qi hj,cond_true,qah hx,jd,wS j])) .done)
def qhs (x:qN):Prop:=rngS x.Am∧rngI x.Bl∧rngI x.Bj∧rngB x.Ay
def qh5 (x:qN):Nat:=x.Am.size
structure qh0 (x:qN):Prop where
 Am:okS x.Am
 Bl:okI x.Bl
 Bj:okI x.Bj
 Ay:okT x.Ay
theorem qoG {x:qN} (h:qhs x) (w:qh5 x≤1048576):qh0 x:=⟨(by unfold okS;simp only [qh5] at w;omega),h.2.1,h.2.2.1,trivial⟩
def qgA (a:(List qN)):Nat:=a.length+(a.map fun x=>qh5 x).sum
theorem qnS {a:(List qN)} (h:(rngL qhs) a) (w:qgA a≤1048576):(okL qh0) a :=
 ⟨by simp only [qgA] at w;omega,fun x hx=>qoG (h.2 x hx) (by have:=qcx (wt:=fun x:qN=>qh5 x) hx;simp only [qgA] at w;omega)⟩
def qgM (x:qn):Prop:=rngS x.Am∧rngI x.Ap∧(rngL qhs) x.Ak∧(rngL qhz) x.Ar∧(rngL rngI) x.Az∧rngI x.Bo∧rngI x.Bh
def qez (x:qn):Nat:=x.Am.size+qgA x.Ak+qgx x.Ar+qbe x.Az
structure qiq (x:qn):Prop where
 Am:okS x.Am
 Ap:okI x.Ap
 Ak:(okL qh0) x.Ak
 Ar:(okL qiN) x.Ar
 Az:(okL okI) x.Az
 Bo:okI x.Bo
 Bh:okI x.Bh
theorem qnI {x:qn} (h:qgM x) (w:qez x≤1048576):qiq x:=⟨(by unfold okS;simp only [qez] at w;omega),h.2.1,qnS (h.2.2.1) (by simp only [qez] at w;omega),qnX (h.2.2.2.1) (by simp only [qez] at w;omega),qbt (h.2.2.2.2.1) (by simp only [qez] at w;omega),h.2.2.2.2.2.1,h.2.2.2.2.2.2⟩
def qe6 (a:(List qn)):Nat:=a.length+(a.map fun x=>qez x).sum
theorem qmX {a:(List qn)} (h:(rngL qgM) a) (w:qe6 a≤1048576):(okL qiq) a :=
 ⟨by simp only [qe6] at w;omega,fun x hx=>qnI (h.2 x hx) (by have:=qcx (wt:=fun x:qn=>qez x) hx;simp only [qe6] at w;omega)⟩
def qg5 (x:qh):Prop:=(rngL qgM) x.Aj
def qeh (x:qh):Nat:=qe6 x.Aj
structure qeL (x:qh):Prop where
 Aj:(okL qiq) x.Aj
theorem ql4 {x:qh} (h:qg5 x) (w:qeh x≤1048576):qeL x:=⟨qmX (h) (by simp only [qeh] at w;omega)⟩
def qdv (x:qd):Prop:=rngS x.Am∧rngI x.Be∧(rngL rngI) x.Af
def qbj (x:qd):Nat:=x.Am.size+qbe x.Af
structure qid (x:qd):Prop where
 Am:okS x.Am
 Be:okI x.Be
 Af:(okL okI) x.Af
theorem qlb {x:qd} (h:qdv x) (w:qbj x≤1048576):qid x:=⟨(by unfold okS;simp only [qbj] at w;omega),h.2.1,qbt (h.2.2) (by simp only [qbj] at w;omega)⟩
def qbP (a:(List qd)):Nat:=a.length+(a.map fun x=>qbj x).sum
theorem qk2 {a:(List qd)} (h:(rngL qdv) a) (w:qbP a≤1048576):(okL qid) a :=
 ⟨by simp only [qbP] at w;omega,fun x hx=>qlb (h.2 x hx) (by have:=qcx (wt:=fun x:qd=>qbj x) hx;simp only [qbP] at w;omega)⟩
def qeq (a:(List ByteArray)):Nat:=a.length+(a.map fun x=>x.size).sum
theorem ql5 {a:(List ByteArray)} (_:(rngL rngS) a) (w:qeq a≤1048576):(okL okS) a :=
 ⟨by simp only [qeq] at w;omega,fun x hx=>(by unfold okS;have:=qcx (wt:=fun x:ByteArray=>x.size) hx;simp only [qeq] at w;omega)⟩
def qgD (x:qI):Prop:=rngS x.Am∧rngI x.Bl∧rngI x.Bm
def qgB (x:qI):Nat:=x.Am.size
structure qlT (x:qI):Prop where
 Am:okS x.Am
 Bl:okI x.Bl
 Bm:okI x.Bm
theorem qn8 {x:qI} (h:qgD x) (w:qgB x≤1048576):qlT x:=⟨(by unfold okS;simp only [qgB] at w;omega),h.2.1,h.2.2⟩
def qfh (a:(List qI)):Nat:=a.length+(a.map fun x=>qgB x).sum
theorem qm4 {a:(List qI)} (h:(rngL qgD) a) (w:qfh a≤1048576):(okL qlT) a :=
 ⟨by simp only [qfh] at w;omega,fun x hx=>qn8 (h.2 x hx) (by have:=qcx (wt:=fun x:qI=>qgB x) hx;simp only [qfh] at w;omega)⟩
def qhD (x:qb):Prop:=(rngL qdv) x.Aa∧(rngL rngS) x.Af∧(rngL qgD) x.Ac
def qd2 (x:qb):Nat:=qbP x.Aa+qeq x.Af+qfh x.Ac
structure qgt (x:qb):Prop where
 Aa:(okL qid) x.Aa
 Af:(okL okS) x.Af
 Ac:(okL qlT) x.Ac
theorem qmE {x:qb} (h:qhD x) (w:qd2 x≤1048576):qgt x:=⟨qk2 (h.1) (by simp only [qd2] at w;omega),ql5 (h.2.1) (by simp only [qd2] at w;omega),qm4 (h.2.2) (by simp only [qd2] at w;omega)⟩
def qgy (x:qD):Prop:=(rngL rngI) x.Ai∧(rngL rngI) x.Bn∧(rngL rngI) x.Bj∧(rngL rngI) x.Bc
def qex (x:qD):Nat:=qbe x.Ai+qbe x.Bn+qbe x.Bj+qbe x.Bc
structure qi6 (x:qD):Prop where
 Ai:(okL okI) x.Ai
 Bn:(okL okI) x.Bn
 Bj:(okL okI) x.Bj
 Bc:(okL okI) x.Bc
theorem qoa {x:qD} (h:qgy x) (w:qex x≤1048576):qi6 x:=⟨qbt (h.1) (by simp only [qex] at w;omega),qbt (h.2.1) (by simp only [qex] at w;omega),qbt (h.2.2.1) (by simp only [qex] at w;omega),qbt (h.2.2.2) (by simp only [qex] at w;omega)⟩
def qe1 (a:(List qD)):Nat:=a.length+(a.map fun x=>qex x).sum
theorem qmL {a:(List qD)} (h:(rngL qgy) a) (w:qe1 a≤1048576):(okL qi6) a :=
 ⟨by simp only [qe1] at w;omega,fun x hx=>qoa (h.2 x hx) (by have:=qcx (wt:=fun x:qD=>qex x) hx;simp only [qe1] at w;omega)⟩
def qim (x:qm):Prop:=qg5 x.Aq∧qhD x.Ab∧(rngL qgy) x.Ah
def qe2 (x:qm):Nat:=qeh x.Aq+qd2 x.Ab+qe1 x.Ah
structure qb3 (x:qm):Prop where
 Aq:qeL x.Aq
 Ab:qgt x.Ab
 Ah:(okL qi6) x.Ah
theorem qmY {x:qm} (h:qim x) (w:qe2 x≤1048576):qb3 x:=⟨ql4 (h.1) (by simp only [qe2] at w;omega),qmE (h.2.1) (by simp only [qe2] at w;omega),qmL (h.2.2) (by simp only [qe2] at w;omega)⟩
theorem qp2 {a:qN} (_:qh5 a≤1048576):Ev (fun n=>qgP n a a) true:=by
 unfold qgP
 exact Ev.ff qgf (Ev.ff qa1 (Ev.ff qa1 (Ev.ff qlX (.done))))
theorem qpo {a:(List qN)} (h:qgA a≤1048576):Ev (fun n=>qgY n a a) true:=by
 have hl:a.length≤1048576:=by simp only [qgA] at h;omega
 unfold qgY
 exact Ev.ff (by simp) (Ev.bind (b:=.nxt (a.length:Int)) (qgn (eqf:=qgP) (fun x hx=>qp2 (by have:=qcx (wt:=fun x:qN=>qh5 x) hx;simp only [qgA] at h;omega))
  (fun n=>by simp only [qd4,qj (je _),cond_false])
  (fun n j x hx=>by
   have hj:=(List.getElem?_eq_some_iff.1 hx).1
   simp only [qd4,qi hj,cond_true,qah hx,jd,wS j])) .done)
theorem qpK {a:qn} (h:qez a≤1048576):Ev (fun n=>qfN n a a) true:=by
 unfold qfN
 simp only [qez] at h
 exact Ev.ff qgf (Ev.ff qa1 (Ev.bind (qpo (a:=a.Ak) (by omega)) (Ev.ff rfl (Ev.bind (qpp (a:=a.Ar) (by omega)) (Ev.ff rfl (Ev.bind (qcC (a:=a.Az) (by omega)) (Ev.ff rfl (Ev.ff qa1 (Ev.ff qa1 (.done))))))))))
theorem qoh {a:(List qn)} (h:qe6 a≤1048576):Ev (fun n=>qga n a a) true:=by
 have hl:a.length≤1048576:=by simp only [qe6] at h;omega
 unfold qga
 exact Ev.ff (by simp) (Ev.bind (b:=.nxt (a.length:Int)) (qgn (eqf:=qfN) (fun x hx=>qpK (by have:=qcx (wt:=fun x:qn=>qez x) hx;simp only [qe6] at h;omega))
  (fun n=>by simp only [qdH,qj (je _),cond_false])
  (fun n j x hx=>by
   have hj:=(List.getElem?_eq_some_iff.1 hx).1
   simp only [qdH,qi hj,cond_true,qah hx,jd,wS j])) .done)
theorem qnb {a:qh} (h:qeh a≤1048576):Ev (fun n=>qeU n a a) true:=by
 unfold qeU
 simp only [qeh] at h
 exact Ev.bind (qoh (a:=a.Aj) (by omega)) (Ev.ff rfl (.done))
theorem qmw {a:qd} (h:qbj a≤1048576):Ev (fun n=>qdG n a a) true:=by
 unfold qdG
 simp only [qbj] at h
 exact Ev.ff qgf (Ev.ff qa1 (Ev.bind (qcC (a:=a.Af) (by omega)) (Ev.ff rfl (.done))))
theorem qmc {a:(List qd)} (h:qbP a≤1048576):Ev (fun n=>qee n a a) true:=by
 have hl:a.length≤1048576:=by simp only [qbP] at h;omega
 unfold qee
 exact Ev.ff (by simp) (Ev.bind (b:=.nxt (a.length:Int)) (qgn (eqf:=qdG) (fun x hx=>qmw (by have:=qcx (wt:=fun x:qd=>qbj x) hx;simp only [qbP] at h;omega))
  (fun n=>by simp only [qb4,qj (je _),cond_false])
  (fun n j x hx=>by
   have hj:=(List.getElem?_eq_some_iff.1 hx).1
   simp only [qb4,qi hj,cond_true,qah hx,jd,wS j])) .done)
theorem qne {a:(List ByteArray)} (h:qeq a≤1048576):Ev (fun n=>qfc n a a) true:=by
 have hl:a.length≤1048576:=by simp only [qeq] at h;omega
 unfold qfc
 exact Ev.ff (by simp) (Ev.bind (b:=.nxt (a.length:Int)) (qgn (eqf:=fun _ x y=>some (!(x.toList != y.toList))) (fun x _=>Ev.now (by simp))
  (fun n=>by simp only [qcY,qj (je _),cond_false])
  (fun n j x hx=>by
   have hj:=(List.getElem?_eq_some_iff.1 hx).1
   simp only [qcY,qi hj,cond_true,qah hx,jd,Bool.not_not,wS j])) .done)
theorem qpm {a:qI} (_:qgB a≤1048576):Ev (fun n=>qfF n a a) true:=by
 unfold qfF
 exact Ev.ff qgf (Ev.ff qa1 (Ev.ff qa1 (.done)))
theorem qof {a:(List qI)} (h:qfh a≤1048576):Ev (fun n=>qf7 n a a) true:=by
 have hl:a.length≤1048576:=by simp only [qfh] at h;omega
 unfold qf7
 exact Ev.ff (by simp) (Ev.bind (b:=.nxt (a.length:Int)) (qgn (eqf:=qfF) (fun x hx=>qpm (by have:=qcx (wt:=fun x:qI=>qgB x) hx;simp only [qfh] at h;omega))
  (fun n=>by simp only [qdB,qj (je _),cond_false])
  (fun n j x hx=>by
   have hj:=(List.getElem?_eq_some_iff.1 hx).1
   simp only [qdB,qi hj,cond_true,qah hx,jd,wS j])) .done)
theorem qn0 {a:qb} (h:qd2 a≤1048576):Ev (fun n=>qfE n a a) true:=by
 unfold qfE
 simp only [qd2] at h
 exact Ev.bind (qmc (a:=a.Aa) (by omega)) (Ev.ff rfl (Ev.bind (qne (a:=a.Af) (by omega)) (Ev.ff rfl (Ev.bind (qof (a:=a.Ac) (by omega)) (Ev.ff rfl (.done))))))
theorem qpe {a:qD} (h:qex a≤1048576):Ev (fun n=>qfI n a a) true:=by
 unfold qfI
 simp only [qex] at h
 exact Ev.bind (qcC (a:=a.Ai) (by omega)) (Ev.ff rfl (Ev.bind (qcC (a:=a.Bn) (by omega)) (Ev.ff rfl (Ev.bind (qcC (a:=a.Bj) (by omega)) (Ev.ff rfl (Ev.bind (qcC (a:=a.Bc) (by omega)) (Ev.ff rfl (.done))))))))
theorem qod {a:(List qD)} (h:qe1 a≤1048576):Ev (fun n=>qgh n a a) true:=by
 have hl:a.length≤1048576:=by simp only [qe1] at h;omega
 unfold qgh
 exact Ev.ff (by simp) (Ev.bind (b:=.nxt (a.length:Int)) (qgn (eqf:=qfI) (fun x hx=>qpe (by have:=qcx (wt:=fun x:qD=>qex x) hx;simp only [qe1] at h;omega))
  (fun n=>by simp only [qdw,qj (je _),cond_false])
  (fun n j x hx=>by
   have hj:=(List.getElem?_eq_some_iff.1 hx).1
   simp only [qdw,qi hj,cond_true,qah hx,jd,wS j])) .done)
theorem qos {a:qm} (h:qe2 a≤1048576):Ev (fun n=>qgb n a a) true:=by
 unfold qgb
 simp only [qe2] at h
 exact Ev.bind (qnb (a:=a.Aq) (by omega)) (Ev.ff rfl (Ev.bind (qn0 (a:=a.Ab) (by omega)) (Ev.ff rfl (Ev.bind (qod (a:=a.Ah) (by omega)) (Ev.ff rfl (.done))))))
theorem qcH {a:(List Int)} {left:Int} (h:(rngL rngI) a) (h0:0≤left) (h1:left≤1048576):Sz (fun n=>qaB n a left) (fun r=>r=left-(qbe a:Int)) :=
 Sz.less h0 h1 (by omega) (by have:=h.1;omega) (fun _=>rfl)
theorem qoH {a:qp} {left:Int} (h:qeP a) (h0:0≤left) (h1:left≤1048576):Sz (fun n=>qe4 n a left) (fun r=>r=left-(qdq a:Int)):=by
 unfold qe4
 obtain ⟨h_0,h_1,h_2⟩:=h
 exact Sz.step (qcH (a:=a.Ba) h_0 (by omega) (by omega)) fun r0 p0 q0=>Sz.step (qcH (a:=a.Bb) h_1 (by omega) (by omega)) fun r1 p1 q1=>Sz.step (qcH (a:=a.As) h_2 (by omega) (by omega)) fun r2 p2 q2=>Sz.done p2 (by simp only [qdq];omega)
theorem qlG {a:(List qp)} {left:Int} (h:(rngL qeP) a) (h0:0≤left) (h1:left≤1048576):Sz (fun n=>qfz n a left) (fun r=>r=left-(qdF a:Int)) :=
 Sz.list (Lf:=qch a) (wt:=fun x:qp=>qdq x) (el:=qe4) h0 h1 h.1 (fun x hx left p q=>qoH (h.2 x hx) p q)
  (fun acc n=>by simp only [qch,qj (je _),cond_false])
  (fun acc n j x hx=>by
   have hj:=(List.getElem?_eq_some_iff.1 hx).1
   have hl:=h.1
   simp only [qch,qi hj,cond_true,qah hx,jd,wS j])
  (fun _=>rfl)
theorem qp8 {a:qH} {left:Int} (h:qhz a) (h0:0≤left) (h1:left≤1048576):Sz (fun n=>qgw n a left) (fun r=>r=left-(qg0 a:Int)):=by
 unfold qgw
 obtain ⟨h_0,h_1,h_2,h_3,h_4,h_5⟩:=h
 exact Sz.step (qlG (a:=a.Bd) h_4 (by omega) (by omega)) fun r0 p0 q0=>Sz.step (qlG (a:=a.Bk) h_5 (by omega) (by omega)) fun r1 p1 q1=>Sz.done p1 (by simp only [qg0];omega)
theorem qpE {a:(List qH)} {left:Int} (h:(rngL qhz) a) (h0:0≤left) (h1:left≤1048576):Sz (fun n=>qh4 n a left) (fun r=>r=left-(qgx a:Int)) :=
 Sz.list (Lf:=qc7 a) (wt:=fun x:qH=>qg0 x) (el:=qgw) h0 h1 h.1 (fun x hx left p q=>qp8 (h.2 x hx) p q)
  (fun acc n=>by simp only [qc7,qj (je _),cond_false])
  (fun acc n j x hx=>by
   have hj:=(List.getElem?_eq_some_iff.1 hx).1
   have hl:=h.1
   simp only [qc7,qi hj,cond_true,qah hx,jd,wS j])
  (fun _=>rfl)
theorem qp3 {a:qN} {left:Int} (h:qhs a) (h0:0≤left) (h1:left≤1048576):Sz (fun n=>qgN n a left) (fun r=>r=left-(qh5 a:Int)):=by
 unfold qgN
 obtain ⟨h_0,h_1,h_2,h_3⟩:=h
 exact Sz.strStep h_0 (by omega) (by omega) fun p0 q0=>Sz.done p0 (by simp only [qh5];omega)
theorem qpP {a:(List qN)} {left:Int} (h:(rngL qhs) a) (h0:0≤left) (h1:left≤1048576):Sz (fun n=>qhS n a left) (fun r=>r=left-(qgA a:Int)) :=
 Sz.list (Lf:=qdg a) (wt:=fun x:qN=>qh5 x) (el:=qgN) h0 h1 h.1 (fun x hx left p q=>qp3 (h.2 x hx) p q)
  (fun acc n=>by simp only [qdg,qj (je _),cond_false])
  (fun acc n j x hx=>by
   have hj:=(List.getElem?_eq_some_iff.1 hx).1
   have hl:=h.1
   simp only [qdg,qi hj,cond_true,qah hx,jd,wS j])
  (fun _=>rfl)
theorem qpf {a:qn} {left:Int} (h:qgM a) (h0:0≤left) (h1:left≤1048576):Sz (fun n=>qfS n a left) (fun r=>r=left-(qez a:Int)):=by
 unfold qfS
 obtain ⟨h_0,h_1,h_2,h_3,h_4,h_5,h_6⟩:=h
 exact Sz.strStep h_0 (by omega) (by omega) fun p0 q0=>Sz.step (qpP (a:=a.Ak) h_2 (by omega) (by omega)) fun r1 p1 q1=>Sz.step (qpE (a:=a.Ar) h_3 (by omega) (by omega)) fun r2 p2 q2=>Sz.step (qcH (a:=a.Az) h_4 (by omega) (by omega)) fun r3 p3 q3=>Sz.done p3 (by simp only [qez];omega)
theorem qoS {a:(List qn)} {left:Int} (h:(rngL qgM) a) (h0:0≤left) (h1:left≤1048576):Sz (fun n=>qhC n a left) (fun r=>r=left-(qe6 a:Int)) :=
 Sz.list (Lf:=qcJ a) (wt:=fun x:qn=>qez x) (el:=qfS) h0 h1 h.1 (fun x hx left p q=>qpf (h.2 x hx) p q)
  (fun acc n=>by simp only [qcJ,qj (je _),cond_false])
  (fun acc n j x hx=>by
   have hj:=(List.getElem?_eq_some_iff.1 hx).1
   have hl:=h.1
   simp only [qcJ,qi hj,cond_true,qah hx,jd,wS j])
  (fun _=>rfl)
theorem qnh {a:qh} {left:Int} (h:qg5 a) (h0:0≤left) (h1:left≤1048576):Sz (fun n=>qfk n a left) (fun r=>r=left-(qeh a:Int)):=by
 unfold qfk
 have h_0:=h
 exact Sz.step (qoS (a:=a.Aj) h_0 (by omega) (by omega)) fun r0 p0 q0=>Sz.done p0 (by simp only [qeh];omega)
theorem qmD {a:qd} {left:Int} (h:qdv a) (h0:0≤left) (h1:left≤1048576):Sz (fun n=>qdI n a left) (fun r=>r=left-(qbj a:Int)):=by
 unfold qdI
 obtain ⟨h_0,h_1,h_2⟩:=h
 exact Sz.strStep h_0 (by omega) (by omega) fun p0 q0=>Sz.step (qcH (a:=a.Af) h_2 (by omega) (by omega)) fun r1 p1 q1=>Sz.done p1 (by simp only [qbj];omega)
theorem ql0 {a:(List qd)} {left:Int} (h:(rngL qdv) a) (h0:0≤left) (h1:left≤1048576):Sz (fun n=>qfp n a left) (fun r=>r=left-(qbP a:Int)) :=
 Sz.list (Lf:=qbq a) (wt:=fun x:qd=>qbj x) (el:=qdI) h0 h1 h.1 (fun x hx left p q=>qmD (h.2 x hx) p q)
  (fun acc n=>by simp only [qbq,qj (je _),cond_false])
  (fun acc n j x hx=>by
   have hj:=(List.getElem?_eq_some_iff.1 hx).1
   have hl:=h.1
   simp only [qbq,qi hj,cond_true,qah hx,jd,wS j])
  (fun _=>rfl)
theorem qmZ {a:(List ByteArray)} {left:Int} (h:(rngL rngS) a) (h0:0≤left) (h1:left≤1048576):Sz (fun n=>qgH n a left) (fun r=>r=left-(qeq a:Int)) :=
 Sz.list (Lf:=qbT a) (wt:=fun x:ByteArray=>x.size) (el:=fun _ (x:ByteArray) acc=>some (W64 (acc-(x.size:Int)))) h0 h1 h.1 (fun x hx left p q=>Sz.str (h.2 x hx) p q)
  (fun acc n=>by simp only [qbT,qj (je _),cond_false])
  (fun acc n j x hx=>by
   have hj:=(List.getElem?_eq_some_iff.1 hx).1
   have hl:=h.1
   simp only [qbT,qi hj,cond_true,qah hx,jd,wS j])
  (fun _=>rfl)
theorem qpv {a:qI} {left:Int} (h:qgD a) (h0:0≤left) (h1:left≤1048576):Sz (fun n=>qfP n a left) (fun r=>r=left-(qgB a:Int)):=by
 unfold qfP
 obtain ⟨h_0,h_1,h_2⟩:=h
 exact Sz.strStep h_0 (by omega) (by omega) fun p0 q0=>Sz.done p0 (by simp only [qgB];omega)
theorem qo5 {a:(List qI)} {left:Int} (h:(rngL qgD) a) (h0:0≤left) (h1:left≤1048576):Sz (fun n=>qhx n a left) (fun r=>r=left-(qfh a:Int)) :=
 Sz.list (Lf:=qcL a) (wt:=fun x:qI=>qgB x) (el:=qfP) h0 h1 h.1 (fun x hx left p q=>qpv (h.2 x hx) p q)
  (fun acc n=>by simp only [qcL,qj (je _),cond_false])
  (fun acc n j x hx=>by
   have hj:=(List.getElem?_eq_some_iff.1 hx).1
   have hl:=h.1
   simp only [qcL,qi hj,cond_true,qah hx,jd,wS j])
  (fun _=>rfl)
theorem qnP {a:qb} {left:Int} (h:qhD a) (h0:0≤left) (h1:left≤1048576):Sz (fun n=>qfy n a left) (fun r=>r=left-(qd2 a:Int)):=by
 unfold qfy
 obtain ⟨h_0,h_1,h_2⟩:=h
 exact Sz.step (ql0 (a:=a.Aa) h_0 (by omega) (by omega)) fun r0 p0 q0=>Sz.step (qmZ (a:=a.Af) h_1 (by omega) (by omega)) fun r1 p1 q1=>Sz.step (qo5 (a:=a.Ac) h_2 (by omega) (by omega)) fun r2 p2 q2=>Sz.done p2 (by simp only [qd2];omega)
theorem qpR {a:qD} {left:Int} (h:qgy a) (h0:0≤left) (h1:left≤1048576):Sz (fun n=>qfM n a left) (fun r=>r=left-(qex a:Int)):=by
 unfold qfM
 obtain ⟨h_0,h_1,h_2,h_3⟩:=h
 exact Sz.step (qcH (a:=a.Ai) h_0 (by omega) (by omega)) fun r0 p0 q0=>Sz.step (qcH (a:=a.Bn) h_1 (by omega) (by omega)) fun r1 p1 q1=>Sz.step (qcH (a:=a.Bj) h_2 (by omega) (by omega)) fun r2 p2 q2=>Sz.step (qcH (a:=a.Bc) h_3 (by omega) (by omega)) fun r3 p3 q3=>Sz.done p3 (by simp only [qex];omega)
theorem qou {a:(List qD)} {left:Int} (h:(rngL qgy) a) (h0:0≤left) (h1:left≤1048576):Sz (fun n=>qhu n a left) (fun r=>r=left-(qe1 a:Int)) :=
 Sz.list (Lf:=qcB a) (wt:=fun x:qD=>qex x) (el:=qfM) h0 h1 h.1 (fun x hx left p q=>qpR (h.2 x hx) p q)
  (fun acc n=>by simp only [qcB,qj (je _),cond_false])
  (fun acc n j x hx=>by
   have hj:=(List.getElem?_eq_some_iff.1 hx).1
   have hl:=h.1
   simp only [qcB,qi hj,cond_true,qah hx,jd,wS j])
  (fun _=>rfl)
theorem qoC {a:qm} {left:Int} (h:qim a) (h0:0≤left) (h1:left≤1048576):Sz (fun n=>qgm n a left) (fun r=>r=left-(qe2 a:Int)):=by
 unfold qgm
 obtain ⟨h_0,h_1,h_2⟩:=h
 exact Sz.step (qnh (a:=a.Aq) h_0 (by omega) (by omega)) fun r0 p0 q0=>Sz.step (qnP (a:=a.Ab) h_1 (by omega) (by omega)) fun r1 p1 q1=>Sz.step (qou (a:=a.Ah) h_2 (by omega) (by omega)) fun r2 p2 q2=>Sz.done p2 (by simp only [qe2];omega)
theorem qcD {a:(List Int)} (h:qbe a≤1048576):Ev (fun n=>qam n a) a:=by
 have hl:a.length≤1048576:=by simp only [qbe] at h;omega
 unfold qam
 exact Ev.bindN (qfA (by omega)) (Ev.bind (b:=(a,(a.length:Int))) (qgo (cp:=fun _ x=>some x) (fun _ _=>.done)
  (fun acc n=>by simp only [qdh,qj (je _),cond_false])
  (fun acc n j x y hx hy=>by
   have hj:=(List.getElem?_eq_some_iff.1 hx).1
   simp only [qdh,qi hj,cond_true,qah hx,qah hy,jd,wS j])) .done)
theorem qoy {a:qp} (h:qdq a≤1048576):Ev (fun n=>qe5 n a) a:=by
 unfold qe5
 simp only [qdq] at h
 exact Ev.bind (qcD (a:=a.Ba) (by omega)) (Ev.bind (qcD (a:=a.Bb) (by omega)) (Ev.bind (qcD (a:=a.As) (by omega)) (.done)))
theorem qlH {a:(List qp)} (h:qdF a≤1048576):Ev (fun n=>qeF n a) a:=by
 have hl:a.length≤1048576:=by simp only [qdF] at h;omega
 unfold qeF
 exact Ev.bindN (qfA (by omega)) (Ev.bind (b:=(a,(a.length:Int))) (qgo (cp:=qe5) (fun x hx=>qoy (by have:=qcx (wt:=fun x:qp=>qdq x) hx;simp only [qdF] at h;omega))
  (fun acc n=>by simp only [qc6,qj (je _),cond_false])
  (fun acc n j x y hx hy=>by
   have hj:=(List.getElem?_eq_some_iff.1 hx).1
   simp only [qc6,qi hj,cond_true,qah hx,qah hy,jd,wS j])) .done)
theorem qqq {a:qH} (h:qg0 a≤1048576):Ev (fun n=>qgF n a) a:=by
 unfold qgF
 simp only [qg0] at h
 exact Ev.bind (qlH (a:=a.Bd) (by omega)) (Ev.bind (qlH (a:=a.Bk) (by omega)) (.done))
theorem qpI {a:(List qH)} (h:qgx a≤1048576):Ev (fun n=>qg1 n a) a:=by
 have hl:a.length≤1048576:=by simp only [qgx] at h;omega
 unfold qg1
 exact Ev.bindN (qfA (by omega)) (Ev.bind (b:=(a,(a.length:Int))) (qgo (cp:=qgF) (fun x hx=>qqq (by have:=qcx (wt:=fun x:qH=>qg0 x) hx;simp only [qgx] at h;omega))
  (fun acc n=>by simp only [qd1,qj (je _),cond_false])
  (fun acc n j x y hx hy=>by
   have hj:=(List.getElem?_eq_some_iff.1 hx).1
   simp only [qd1,qi hj,cond_true,qah hx,qah hy,jd,wS j])) .done)
theorem qp4 {a:qN} (_:qh5 a≤1048576):Ev (fun n=>qgG n a) a:=by
 unfold qgG
 exact .done
theorem qpx {a:(List qN)} (h:qgA a≤1048576):Ev (fun n=>qg7 n a) a:=by
 have hl:a.length≤1048576:=by simp only [qgA] at h;omega
 unfold qg7
 exact Ev.bindN (qfA (by omega)) (Ev.bind (b:=(a,(a.length:Int))) (qgo (cp:=qgG) (fun x hx=>qp4 (by have:=qcx (wt:=fun x:qN=>qh5 x) hx;simp only [qgA] at h;omega))
  (fun acc n=>by simp only [qd5,qj (je _),cond_false])
  (fun acc n j x y hx hy=>by
   have hj:=(List.getElem?_eq_some_iff.1 hx).1
   simp only [qd5,qi hj,cond_true,qah hx,qah hy,jd,wS j])) .done)
theorem qpG {a:qn} (h:qez a≤1048576):Ev (fun n=>qfO n a) a:=by
 unfold qfO
 simp only [qez] at h
 exact Ev.bind (qpx (a:=a.Ak) (by omega)) (Ev.bind (qpI (a:=a.Ar) (by omega)) (Ev.bind (qcD (a:=a.Az) (by omega)) (.done)))
theorem qon {a:(List qn)} (h:qe6 a≤1048576):Ev (fun n=>qf9 n a) a:=by
 have hl:a.length≤1048576:=by simp only [qe6] at h;omega
 unfold qf9
 exact Ev.bindN (qfA (by omega)) (Ev.bind (b:=(a,(a.length:Int))) (qgo (cp:=qfO) (fun x hx=>qpG (by have:=qcx (wt:=fun x:qn=>qez x) hx;simp only [qe6] at h;omega))
  (fun acc n=>by simp only [qdx,qj (je _),cond_false])
  (fun acc n j x y hx hy=>by
   have hj:=(List.getElem?_eq_some_iff.1 hx).1
   simp only [qdx,qi hj,cond_true,qah hx,qah hy,jd,wS j])) .done)
theorem qnd {a:qh} (h:qeh a≤1048576):Ev (fun n=>qfg n a) a:=by
 unfold qfg
 simp only [qeh] at h
 exact Ev.bind (qon (a:=a.Aj) (by omega)) (.done)
theorem qml {a:qd} (h:qbj a≤1048576):Ev (fun n=>qdz n a) a:=by
 unfold qdz
 simp only [qbj] at h
 exact Ev.bind (qcD (a:=a.Af) (by omega)) (.done)
theorem qma {a:(List qd)} (h:qbP a≤1048576):Ev (fun n=>qei n a) a:=by
 have hl:a.length≤1048576:=by simp only [qbP] at h;omega
 unfold qei
 exact Ev.bindN (qfA (by omega)) (Ev.bind (b:=(a,(a.length:Int))) (qgo (cp:=qdz) (fun x hx=>qml (by have:=qcx (wt:=fun x:qd=>qbj x) hx;simp only [qbP] at h;omega))
  (fun acc n=>by simp only [qb7,qj (je _),cond_false])
  (fun acc n j x y hx hy=>by
   have hj:=(List.getElem?_eq_some_iff.1 hx).1
   simp only [qb7,qi hj,cond_true,qah hx,qah hy,jd,wS j])) .done)
theorem qmK {a:(List ByteArray)} (h:qeq a≤1048576):Ev (fun n=>qfb n a) a:=by
 have hl:a.length≤1048576:=by simp only [qeq] at h;omega
 unfold qfb
 exact Ev.bindN (qfA (by omega)) (Ev.bind (b:=(a,(a.length:Int))) (qgo (cp:=fun _ x=>some x) (fun _ _=>.done)
  (fun acc n=>by simp only [qcS,qj (je _),cond_false])
  (fun acc n j x y hx hy=>by
   have hj:=(List.getElem?_eq_some_iff.1 hx).1
   simp only [qcS,qi hj,cond_true,qah hx,qah hy,jd,wS j])) .done)
theorem qpC {a:qI} (_:qgB a≤1048576):Ev (fun n=>qfG n a) a:=by
 unfold qfG
 exact .done
theorem qok {a:(List qI)} (h:qfh a≤1048576):Ev (fun n=>qf5 n a) a:=by
 have hl:a.length≤1048576:=by simp only [qfh] at h;omega
 unfold qf5
 exact Ev.bindN (qfA (by omega)) (Ev.bind (b:=(a,(a.length:Int))) (qgo (cp:=qfG) (fun x hx=>qpC (by have:=qcx (wt:=fun x:qI=>qgB x) hx;simp only [qfh] at h;omega))
  (fun acc n=>by simp only [qdD,qj (je _),cond_false])
  (fun acc n j x y hx hy=>by
   have hj:=(List.getElem?_eq_some_iff.1 hx).1
   simp only [qdD,qi hj,cond_true,qah hx,qah hy,jd,wS j])) .done)
theorem qn4 {a:qb} (h:qd2 a≤1048576):Ev (fun n=>qfw n a) a:=by
 unfold qfw
 simp only [qd2] at h
 exact Ev.bind (qma (a:=a.Aa) (by omega)) (Ev.bind (qmK (a:=a.Af) (by omega)) (Ev.bind (qok (a:=a.Ac) (by omega)) (.done)))
theorem qpg {a:qD} (h:qex a≤1048576):Ev (fun n=>qfQ n a) a:=by
 unfold qfQ
 simp only [qex] at h
 exact Ev.bind (qcD (a:=a.Ai) (by omega)) (Ev.bind (qcD (a:=a.Bn) (by omega)) (Ev.bind (qcD (a:=a.Bj) (by omega)) (Ev.bind (qcD (a:=a.Bc) (by omega)) (.done))))
theorem qo8 {a:(List qD)} (h:qe1 a≤1048576):Ev (fun n=>qf4 n a) a:=by
 have hl:a.length≤1048576:=by simp only [qe1] at h;omega
 unfold qf4
 exact Ev.bindN (qfA (by omega)) (Ev.bind (b:=(a,(a.length:Int))) (qgo (cp:=qfQ) (fun x hx=>qpg (by have:=qcx (wt:=fun x:qD=>qex x) hx;simp only [qe1] at h;omega))
  (fun acc n=>by simp only [qdE,qj (je _),cond_false])
  (fun acc n j x y hx hy=>by
   have hj:=(List.getElem?_eq_some_iff.1 hx).1
   simp only [qdE,qi hj,cond_true,qah hx,qah hy,jd,wS j])) .done)
theorem qkF {a:qm} (h:qe2 a≤1048576):Ev (fun n=>qes n a) a:=by
 unfold qes
 simp only [qe2] at h
 exact Ev.bind (qnd (a:=a.Aq) (by omega)) (Ev.bind (qn4 (a:=a.Ab) (by omega)) (Ev.bind (qo8 (a:=a.Ah) (by omega)) (.done)))
end Go.Fw


namespace Go.Fw
open Go
set_option maxRecDepth 100000
theorem qcQ {n:Nat} {x lo hi:Int}:qO n x lo hi=some (inI x lo hi):=by
 simp only [qO,qic,qjg];rfl
theorem qcF {n:Nat} {x lo hi:Int}:qY n x lo hi=some (inI x lo hi):=by
 simp only [qY,qic,qjg];rfl
def bt (s:ByteArray) (j:Nat):Nat:=(s.data.toList.getD j 0).toNat
theorem qow {s:ByteArray} {j:Nat} (h:j<s.size):atS s (j:Int)=some (bt s j:Int):=by
 have h':j<s.data.size:=h
 have hl:j<s.data.toList.length:=by simpa using h'
 unfold atS
 rw [if_pos (by omega),jE]
 have:s[j]?=some (s.data.toList.getD j 0):=by
  rw [getElem?_pos s j h,jv,jh hl]
  rfl
 rw [this]
 rfl
def letB (b:Nat):Bool:=decide (97≤b)&&decide (b≤122)
def digB (b:Nat):Bool:=decide (48≤b)&&decide (b≤57)
def chB (s:ByteArray) (j:Nat):Bool:=letB (bt s j) || digB (bt s j)&&decide (0<j)
def nameB (s:ByteArray):Bool:=(decide (1≤s.size)&&decide (s.size≤8))&&allN (chB s) s.size
theorem qiL {s:ByteArray} (h:okS s):Ev (fun n=>qel n s) (nameB s):=by
 unfold okS at h
 have hL:Ev (fun n=>qbZ s n 0) (bif allN (chB s) s.size then .nxt (s.size:Int) else .ret false):=by
  refine qdl ?_ (fun j hj X hX=>?_)
  ·exact Ev.succ (by simp only [qbZ,qj (je _),cond_false];exact .done)
  ·refine Ev.succ ?_
   simp only [qbZ,qi hj,cond_true,qow hj,jd,qic,qjg,wS j]
   have e1:(decide ((bt s j:Int) ≥ 97)&&decide ((bt s j:Int)≤122))=letB (bt s j):=by unfold letB;rw [ji];simp;omega
   have e2:(decide ((bt s j:Int) ≥ 48)&&decide ((bt s j:Int)≤57))=digB (bt s j):=by unfold digB;rw [ji];simp;omega
   have e3:decide ((j:Int) > 0)=decide (0<j):=by rw [ji];simp
   rw [e1,e2,e3]
   unfold chB
   cases letB (bt s j)<;>cases digB (bt s j)<;>cases decide (0<j)<;>first|exact hX|exact .done
 unfold qel
 refine Ev.cast (r:=bif allN (chB s) s.size then (decide (1≤s.size)&&decide (s.size≤8)) else false) (Ev.bindB hL (fun _=>?_) (fun _=>.done)) ?_
 ·simp only [qic,qjg]
  exact Ev.now (by congr 1;rw [ji];simp;omega)
 ·unfold nameB
  cases allN (chB s) s.size<;>simp
def cutset:List UInt8:=[97,98,99,100,101,102,103,104,105,106,107,108,109,110,111,112,113,114,115,116,117,118,119,120,121,122,48,49,50,51,52,53,54,55,56,57]
theorem qkC (b:UInt8):cutset.contains b=(letB b.toNat || digB b.toNat):=by
 have h0:(List.range 256).all (fun m=>cutset.contains (UInt8.ofNat m)==(letB (UInt8.ofNat m).toNat || digB (UInt8.ofNat m).toNat))=true:=by kernel_rfl
 have h:=List.all_eq_true.1 h0 b.toNat (List.mem_range.2 b.toNat_lt)
 rw [beq_iff_eq] at h
 simpa using h
def letters:List UInt8:=[97,98,99,100,101,102,103,104,105,106,107,108,109,110,111,112,113,114,115,116,117,118,119,120,121,122]
theorem qnf (m:Nat) (hm:m<256):decide ((Lib.indexByte letters m.toUInt8) ≥ 0)=letB m:=by
 have h0:(List.range 256).all (fun m=>decide ((Lib.indexByte letters m.toUInt8) ≥ 0)==letB m)=true:=by kernel_rfl
 have h:=List.all_eq_true.1 h0 m (List.mem_range.2 hm)
 rwa [beq_iff_eq] at h
theorem qll {α:Type} {p:α→Bool} {l:List α}:l.dropWhile p=[]↔∀ x,x ∈ l→p x=true:=by
 induction l with
 | nil=>simp
 | cons y l ih =>
  rw [List.dropWhile_cons]
  by_cases h:p y=true
  ·rw [if_pos h,ih];simp [h]
  ·rw [if_neg h];simp [h]
theorem qlm {α:Type} {p:α→Bool} {l:List α} (h:∀ x,x ∈ l.dropWhile p→p x=true):∀ x,x ∈ l→p x=true:=by
 induction l with
 | nil=>simp
 | cons y l ih =>
  rw [List.dropWhile_cons] at h
  by_cases hy:p y=true
  ·rw [if_pos hy] at h
   intro x hx
   rcases List.mem_cons.1 hx with rfl|hx
   ·exact hy
   ·exact ih h x hx
  ·rw [if_neg hy] at h
   exact h
theorem qoe {l cs:List UInt8}:Lib.trimS l cs=[]↔∀ x,x ∈ l→cs.contains x=true:=by
 unfold Lib.trimS Lib.trimRightS Lib.trimLeftS
 rw [qll]
 constructor
 ·intro h x hx
  exact qlm (p:=(cs.contains ·)) (l:=l.reverse) (fun y hy=>h y (List.mem_reverse.2 hy)) x (List.mem_reverse.2 hx)
 ·intro h x hx
  exact h x (List.mem_reverse.1 ((List.dropWhile_suffix _).subset (List.mem_reverse.1 hx)))
theorem qeE {a b:ByteArray}:(a.toList==b.toList)=decide (a=b):=by
 rw [ji,beq_iff_eq,decide_eq_true_iff]
 constructor
 ·intro h
  exact ByteArray.ext (by have:=congrArg List.toArray h;simpa [ByteArray.toList_eq] using this)
 ·rintro rfl;rfl
end Go.Fw


namespace Go.Fw
open Go
set_option maxRecDepth 100000
theorem qpY {s:ByteArray} {j:Nat} (h:j<s.data.toList.length):bt s j=(s.data.toList[j]).toNat:=by
 unfold bt;rw [jv,jh h];rfl
theorem qqu {s:ByteArray} {j:Nat}:bt s j<256:=UInt8.toNat_lt _
theorem qlB {n:Nat} {s:ByteArray} (h:okS s):qfL n s=some (nameB s):=by
 unfold okS at h
 have hl:s.data.toList.length=s.size:=by simp
 simp only [qfL,qcF,jd]
 cases hI:inI (s.size:Int) 1 8 with
 | false =>
  have hs:(decide (1≤s.size)&&decide (s.size≤8))=false:=by rw [qnD] at hI;rw [Bool.and_eq_false_iff,decide_eq_false_iff_not,decide_eq_false_iff_not];omega
  simp [nameB,hs]
 | true =>
  have hs:1≤s.size∧s.size≤8:=by rw [qbp] at hI;omega
  have hT:qff n s (⟨#[97,98,99,100,101,102,103,104,105,106,107,108,109,110,111,112,113,114,115,116,117,118,119,120,121,122,48,49,50,51,52,53,54,55,56,57]⟩:ByteArray)=some ⟨(Lib.trimS s.data.toList cutset).toArray⟩:=by
   unfold qff
   rw [if_pos ⟨by omega,by decide,by decide⟩]
   rfl
  rw [hT]
  simp only [cond_true,jd]
  have hE:(((⟨(Lib.trimS s.data.toList cutset).toArray⟩:ByteArray).toList==(⟨#[]⟩:ByteArray).toList))=allN (fun j=>letB (bt s j) || digB (bt s j)) s.size:=by
   rw [qeE,ji,decide_eq_true_iff,qW]
   have:((⟨(Lib.trimS s.data.toList cutset).toArray⟩:ByteArray)=⟨#[]⟩)↔Lib.trimS s.data.toList cutset=[]:=by
    constructor
    ·intro he
     have:=congrArg (fun x:ByteArray=>x.data.toList) he
     simpa using this
    ·intro he;rw [he]
   rw [this,qoe]
   constructor
   ·intro hx j hj
    have hj':j<s.data.toList.length:=by omega
    have:=hx _ (jt hj')
    rw [qkC,←qpY hj'] at this
    exact this
   ·intro hx x hm
    obtain ⟨j,hj,rfl⟩:=jH hm
    have:=hx j (by omega)
    rw [qkC,←qpY hj]
    exact this
  rw [hE]
  have h0:atS s 0=some (bt s 0:Int):=qow (j:=0) (by omega)
  have hI2:decide (Lib.indexByte letters (bt s 0:Int).toNat.toUInt8 ≥ 0)=letB (bt s 0):=by
   rw [jE];exact qnf _ qqu
  have hF:∀ b:Bool,(bif b then (atS s 0).bind fun y1=>(qdY n (⟨#[97,98,99,100,101,102,103,104,105,106,107,108,109,110,111,112,113,114,115,116,117,118,119,120,121,122]⟩:ByteArray) (⟨y1⟩:IntK .u8)).bind fun r3=>some (decide (r3 ≥ 0)) else some false)=some (b&&letB (bt s 0)):=by
   intro b
   cases b with
   | false=>rfl
   | true =>
    rw [h0]
    simp only [cond_true,jd,qdY,jx]
    exact congrArg some hI2
  rw [hF]
  congr 1
  have hs':(decide (1≤s.size)&&decide (s.size≤8))=true:=by simp [hs]
  unfold nameB
  rw [hs',jx,ji,jg,qW,qW]
  simp only [chB,Bool.or_eq_true,jg,decide_eq_true_eq]
  constructor
  ·rintro ⟨h1,h2⟩ j hj
   rcases Nat.eq_zero_or_pos j with rfl|hp
   ·exact .inl h2
   ·exact (h1 j hj).imp id (fun h=>⟨h,hp⟩)
  ·intro h1
   refine ⟨fun j hj=>(h1 j hj).imp id (fun h=>h.1),?_⟩
   rcases h1 0 (by omega) with h2|h2
   ·exact h2
   ·omega
def strAt (xs:List ByteArray) (j:Nat):ByteArray:=xs.getD j ByteArray.empty
theorem qi9 {xs:List ByteArray} {j:Nat} (h:j<xs.length):strAt xs j=xs[j]:=by simp [strAt,h]
theorem qke {xs:List ByteArray} {j:Nat} (h:j<xs.length):idx xs (j:Int)=some (strAt xs j):=by rw [qgI h,qi9 h]
def neB (xs:List ByteArray) (j i:Nat):Bool:=!decide (strAt xs i=strAt xs j)
def namesB (xs:List ByteArray):Bool:=allN (fun j=>nameB (strAt xs j)&&allN (neB xs j) j) xs.length
theorem qik {xs:List ByteArray} (h:okL okS xs):Ev (fun n=>qdJ n xs) (namesB xs):=by
 have hl:=h.len
 have hL2:∀ j,j<xs.length→Ev (fun n=>qcg xs (j:Int) n 0) (bif allN (neB xs j) j then .nxt (j:Int) else .ret false):=by
  intro j hj
  refine qdl ?_ (fun i hi X hX=>Ev.succ ?_)
  ·exact Ev.succ (by simp only [qcg,qj (je _),cond_false];exact .done)
  ·simp only [qcg,qi hi,cond_true,qke (show i<xs.length by omega),qke hj,jd,qeE,wS i]
   unfold neB
   cases decide (strAt xs i=strAt xs j)
   ·exact hX
   ·exact .done
 have hL1:Ev (fun n=>qcm xs n 0) (bif namesB xs then .nxt (xs.length:Int) else .ret false):=by
  refine qdl ?_ (fun j hj X hX=>Ev.succ ?_)
  ·exact Ev.succ (by simp only [qcm,qj (je _),cond_false];exact .done)
  ·simp only [qcm,qi hj,cond_true,qke hj,jd,wS j]
   refine Ev.bind (qiL (by rw [qi9 hj];exact h.at hj)) ?_
   cases nameB (strAt xs j)
   ·exact .done
   ·refine Ev.ff rfl (Ev.bind (hL2 j hj) ?_)
    cases allN (neB xs j) j
    ·exact .done
    ·exact hX
 unfold qdJ
 refine Ev.bind hL1 ?_
 cases namesB xs<;>exact .done
theorem qmd {xs:List ByteArray} {v:ByteArray} (hl:xs.length≤1048576):Ev (fun n=>qc5 n xs v) (ixL (fun x=>decide (v=x)) xs) :=
 qfU (fin:=(xs.length:Int)) (Lf:=qaW xs v) (pf:=fun _ x=>some (decide (v=x))) (fun _ _=>.done)
  (fun n=>by simp only [qaW,qj (je _),cond_false])
  (fun n j x hx=>by
   have hj:=(List.getElem?_eq_some_iff.1 hx).1
   simp only [qaW,qi hj,cond_true,qah hx,jd,qeE,wS j])
  (fun n=>by unfold qc5;congr 1;funext o;cases o<;>rfl)
theorem qkJ {xs:List ByteArray} {v:ByteArray} (hl:xs.length≤1048576):Ev (fun n=>qcc n xs v) (xs.any fun x=>decide (v=x)):=by
 unfold qcc
 exact Ev.bind (qmd hl) (Ev.now (by rw [qiK]))
theorem qfR {xs:List ByteArray} (h:okL okS xs):Ev (fun n=>qce n xs) (namesB xs):=by
 have hl:=h.len
 have hL1:Ev (fun n=>qcn xs n 0) (bif namesB xs then .nxt (xs.length:Int) else .ret false):=by
  refine qdl ?_ (fun j hj X hX=>Ev.succ ?_)
  ·exact Ev.succ (by simp only [qcn,qj (je _),cond_false];exact .done)
  ·have hs:subS xs 0 (j:Int)=some (xs.take j):=by
    unfold subS
    rw [if_pos ⟨by omega,by omega,by omega⟩]
    simp
   simp only [qcn,qi hj,cond_true,qke hj,jd,hs,qlB (show okS (strAt xs j) by rw [qi9 hj];exact h.at hj),wS j]
   cases nameB (strAt xs j)
   ·exact .done
   ·refine Ev.ff rfl (Ev.bind (qkJ (by simp;omega)) ?_)
    have:((xs.take j).any fun x=>decide (strAt xs j=x)) = !allN (neB xs j) j:=by
     rw [qmt (d:=ByteArray.empty)]
     congr 1
     rw [List.length_take,Nat.min_eq_left (by omega)]
     refine qeN (fun i hi=>?_)
     unfold neB strAt
     congr 1
     have:(xs.take j).getD i ByteArray.empty=xs.getD i ByteArray.empty:=by simp [jv,hi]
     rw [this]
     exact decide_eq_decide.2 eq_comm
    rw [this]
    cases allN (neB xs j) j
    ·exact .done
    ·exact hX
 unfold qce
 refine Ev.bind hL1 ?_
 cases namesB xs<;>exact .done
end Go.Fw


namespace Go.Fw
open Go
set_option maxRecDepth 100000
theorem qld {n:Nat} {x lo hi:Int}:qer n x lo hi=some (!inI x lo hi):=by simp only [qer,qcF,jd]
theorem qdo {xs:List Int} {lo hi:Int} (hl:xs.length≤1048576):Ev (fun n=>qaU n xs lo hi) (xs.all fun x=>inI x lo hi):=by
 have h1:Ev (fun n=>qaa n xs lo hi) (ixL (fun x=>!inI x lo hi) xs) :=
  qfU (fin:=(xs.length:Int)) (Lf:=qB xs lo hi) (pf:=fun _ x=>some (!inI x lo hi)) (fun _ _=>.done)
   (fun n=>by simp only [qB,qj (je _),cond_false])
   (fun n j x hx=>by
    have hj:=(List.getElem?_eq_some_iff.1 hx).1
    simp only [qB,qi hj,cond_true,qah hx,jd,qld,wS j])
   (fun n=>by unfold qaa;congr 1;funext o;cases o<;>rfl)
 unfold qaU qaF
 refine Ev.bind (Ev.bind h1 (Ev.now rfl)) (Ev.now ?_)
 rw [qiK,qki]
def stepB (xs:List Int) (j:Nat):Bool:=decide (j=0) || decide (at0 xs (j-1)<at0 xs j)
def incB (xs:List Int):Bool:=allN (stepB xs) xs.length
theorem qfW {xs:List Int} (hl:xs.length≤1048576):Ev (fun n=>qbV n xs) (incB xs):=by
 have hL:Ev (fun n=>qaD xs n 1) (bif incB xs then .nxt (max 1 xs.length:Int) else .ret false):=by
  by_cases h0:xs.length=0
  ·have hb:incB xs=true:=by unfold incB;rw [h0];rfl
   rw [hb]
   refine Ev.succ ?_
   have:decide ((1:Int)<(xs.length:Int))=false:=by rw [h0];decide
   simp only [qaD,this,cond_false]
   exact Ev.now (by rw [h0];rfl)
  ·have:=qnl (Lf:=qaD xs) (len:=xs.length) (i0:=1) (f:=stepB xs) (bad:=false) (fin:=.nxt (max 1 xs.length:Int)) (by omega)
    (Ev.succ (by
     simp only [qaD,qj (je _),cond_false]
     exact Ev.now (by congr 2;omega)))
    (fun j h1 hj X hX=>Ev.succ (by
     simp only [qaD,qi hj,cond_true,wS j,show (j:Int)-1=((j-1:Nat):Int) by omega,qew (show -9223372036854775808≤((j-1:Nat):Int) by omega) (by omega),qbc (show j-1<xs.length by omega),qbc hj,jd]
     unfold stepB
     by_cases hc:at0 xs (j-1)<at0 xs j
     ·have e1:decide (at0 xs (j-1) ≥ at0 xs j)=false:=by simp;omega
      rw [e1];simp only [hc,decide_true,Bool.or_true,cond_true,cond_false];exact hX
     ·have e1:decide (at0 xs (j-1) ≥ at0 xs j)=true:=by simp;omega
      have e2:decide (j=0)=false:=by simp;omega
      rw [e1,e2];simp only [hc,decide_false,Bool.or_self,cond_true,cond_false];exact .done))
   have e:allN (fun j=>stepB xs (1+j)) (xs.length-1)=incB xs:=by
    unfold incB
    rw [ji,qW,qW]
    constructor
    ·intro h j hj
     cases j with
     | zero=>rfl
     | succ j=>have:=h j (by omega);rwa [Nat.add_comm] at this
    ·intro h j hj
     exact h (1+j) (by omega)
   rw [e] at this
   exact this
 unfold qbV
 refine Ev.bind hL ?_
 cases incB xs<;>exact .done
def lenB {α:Type} (xs:List α) (lo hi:Nat):Bool:=decide (lo≤xs.length)&&decide (xs.length≤hi)
theorem qlN {α:Type} {xs:List α} {lo hi:Nat}:inI (xs.length:Int) (lo:Int) (hi:Int)=lenB xs lo hi:=by
 unfold inI lenB;rw [ji];simp
def axisB (xs:List Int):Bool:=lenB xs 1 4&&((xs.all fun x=>inI x 0 100000)&&incB xs)
theorem qln {xs:List Int} (hl:xs.length≤1048576):Ev (fun n=>qfT n xs) (axisB xs):=by
 simp only [qfT,qaA,jd,qcF,show inI (xs.length:Int) 1 4=lenB xs 1 4 from qlN (lo:=1) (hi:=4)]
 unfold axisB
 cases lenB xs 1 4
 ·exact .done
 ·refine Ev.tt rfl (Ev.bind (qdo hl) ?_)
  cases (xs.all fun x=>inI x 0 100000)
  ·exact .done
  ·exact Ev.tt rfl (Ev.bind (qfW hl) .done)
theorem qkY {xs:List Int} (hl:xs.length≤1048576):Ev (fun n=>qeW n xs) (axisB xs):=by
 have hL:Ev (fun n=>qb1 xs n 0) (bif allN (fun j=>inI (at0 xs j) 0 100000&&stepB xs j) xs.length then .nxt (xs.length:Int) else .ret false):=by
  refine qdl ?_ (fun j hj X hX=>Ev.succ ?_)
  ·exact Ev.succ (by simp only [qb1,qj (je _),cond_false];exact .done)
  ·simp only [qb1,qi hj,cond_true,qbc hj,jd,qcQ,wS j]
   cases inI (at0 xs j) 0 100000
   ·exact .done
   ·simp only [jI,cond_false,jx]
    unfold stepB
    by_cases h0:j=0
    ·subst h0
     exact Ev.ff (by decide) hX
    ·simp only [show (j:Int)-1=((j-1:Nat):Int) by omega,qew (show -9223372036854775808≤((j-1:Nat):Int) by omega) (by omega),qbc (show j-1<xs.length by omega),jd]
     have e2:decide (j=0)=false:=by simp;omega
     have e3:decide ((j:Int) > 0)=true:=by simp;omega
     rw [e2,e3]
     simp only [cond_true,Bool.false_or]
     by_cases hc:at0 xs (j-1)<at0 xs j
     ·have e1:decide (at0 xs (j-1) ≥ at0 xs j)=false:=by simp;omega
      rw [e1];simp only [hc,decide_true,cond_true,cond_false];exact hX
     ·have e1:decide (at0 xs (j-1) ≥ at0 xs j)=true:=by simp;omega
      rw [e1];simp only [hc,decide_false,cond_true,cond_false];exact .done
 have e:axisB xs=(allN (fun j=>inI (at0 xs j) 0 100000&&stepB xs j) xs.length&&lenB xs 1 4):=by
  unfold axisB incB
  rw [qhm,qeS (d:=0),Bool.and_comm]
  rfl
 rw [e]
 unfold qeW
 refine Ev.bind hL ?_
 cases allN (fun j=>inI (at0 xs j) 0 100000&&stepB xs j) xs.length
 ·exact .done
 ·simp only [cond_true,qic,qjg,jx]
  exact Ev.now (by congr 1;unfold lenB;rw [ji];simp;omega)
def tableB (t:qp):Bool:=axisB t.Ba&&(axisB t.Bb&&(decide (t.As.length=t.Ba.length*t.Bb.length)&&(t.As.all fun x=>inI x (-1000000) 1000000)))
theorem qno {a b:Nat} (ha:a≤1048576) (hb:b≤1048576):W64 ((a:Int)*(b:Int))=((a*b:Nat):Int):=by
 have h:a*b≤1048576*1048576:=Nat.mul_le_mul ha hb
 have e:(a:Int)*(b:Int)=((a*b:Nat):Int):=by simp
 rw [e]
 exact qew (by omega) (by omega)
theorem qm5 {t:qp} (h:qe0 t):Ev (fun n=>qgd n t) (tableB t):=by
 unfold qgd tableB
 refine Ev.bind (qln h.Ba.len) ?_
 cases axisB t.Ba
 ·exact .done
 ·refine Ev.tt rfl (Ev.bind (qln h.Bb.len) ?_)
  cases axisB t.Bb
  ·exact .done
  ·rw [qno h.Ba.len h.Bb.len]
   have e:(((t.As.length:Nat):Int)==((t.Ba.length*t.Bb.length:Nat):Int))=decide (t.As.length=t.Ba.length*t.Bb.length):=by rw [ji];simp;omega
   rw [e]
   cases decide (t.As.length=t.Ba.length*t.Bb.length)
   ·exact .done
   ·exact Ev.tt rfl (Ev.tt rfl (Ev.bind (qdo h.As.len) .done))
theorem qmm {t:qp} (h:qe0 t):Ev (fun n=>qgk n t) (tableB t):=by
 have hl:=h.As.len
 have hL:Ev (fun n=>qcA t n 0) (bif (t.As.all fun x=>inI x (-1000000) 1000000) then .nxt (t.As.length:Int) else .ret false) :=
  qiX (fun n=>by simp only [qcA,qj (je _),cond_false]) (fun j hj X hX=>by
   simp only [qcA,qi hj,cond_true,qgI hj,jd,qcQ,wS j]
   cases inI t.As[j] (-1000000) 1000000
   ·exact .done
   ·exact hX)
 unfold qgk tableB
 refine Ev.bind (b:=!(axisB t.Ba&&(axisB t.Bb&&decide (t.As.length=t.Ba.length*t.Bb.length)))) ?_ ?_
 ·refine Ev.bind (qkY h.Ba.len) ?_
  cases axisB t.Ba
  ·exact .done
  ·refine Ev.ff rfl (Ev.bind (qkY h.Bb.len) ?_)
   cases axisB t.Bb
   ·exact .done
   ·refine Ev.ff rfl (Ev.now ?_)
    rw [qno h.Ba.len h.Bb.len]
    congr 1
    rw [ji];simp;omega
 ·cases axisB t.Ba
  ·exact .done
  ·cases axisB t.Bb
   ·exact .done
   ·cases decide (t.As.length=t.Ba.length*t.Bb.length)
    ·exact .done
    ·refine Ev.ff rfl (Ev.bind hL ?_)
     cases (t.As.all fun x=>inI x (-1000000) 1000000)<;>exact .done
end Go.Fw


namespace Go.Fw
open Go
set_option maxRecDepth 100000
instance:Inhabited qN:=⟨⟨ByteArray.empty,0,0,false⟩⟩
instance:Inhabited qp:=⟨⟨[],[],[]⟩⟩
instance:Inhabited qH:=⟨⟨0,0,0,0,[],[]⟩⟩
instance:Inhabited qn:=⟨⟨ByteArray.empty,0,[],[],[],0,0⟩⟩
instance:Inhabited qd:=⟨⟨ByteArray.empty,0,[]⟩⟩
instance:Inhabited qI:=⟨⟨ByteArray.empty,0,0⟩⟩
instance:Inhabited qD:=⟨⟨[],[],[],[]⟩⟩
theorem lastE {j m:Nat} (h:j<m) (hm:m≤1048576):((j:Int)==W64 ((m:Int)-1))=decide (j+1=m):=by
 rcases qpq h with h|h
 ·exact h
 ·omega
theorem qgr {α:Type} [Inhabited α] {xs:List α} {g:α→ByteArray} {j:Nat} (h:j<xs.length):strAt (xs.map g) j=g (gt xs j):=by
 rw [qi9 (by simpa using h),qiE h];simp
theorem qir {α:Type} {xs:List α} {g:α→ByteArray} {ok:α→Prop} (h:okL ok xs) (hg:∀ x,ok x→okS (g x)):okL okS (xs.map g) :=
 ⟨by rw [jF];exact h.1,fun y hy=>by
  obtain ⟨x,hx,rfl⟩:=List.mem_map.1 hy
  exact hg x (h.2 x hx)⟩
theorem qhj {α β:Type} {xs:List α} {g:α→β} {j:Nat} (h:j<xs.length) (hl:xs.length≤1048576) {y:β}:appS ((xs.take j).map g) [y]=some ((xs.take j).map g++[y]) :=
 qdn (by simp;omega)
def pinB (ps:List qN) (j:Nat):Bool :=
 bif decide (j+1=ps.length) then ((gt ps j).Bl==2)&&(((gt ps j).Bj==0)&&!(gt ps j).Ay) else ((gt ps j).Bl==1)&&inI (gt ps j).Bj 0 500
def pinsB (ps:List qN):Bool:=allN (pinB ps) ps.length&&(lenB ps 2 5&&namesB (ps.map qN.Am))
def clkN (ps:List qN) (j:Nat):Nat:=cntP (fun i=>(gt ps i).Ay) j
theorem qm7 {ps:List qN} (h:okL qh0 ps):Ev (fun n=>qf8 n ps) (pinsB ps):=by
 have hl:=h.len
 have hL:Ev (fun n=>qbw ps n ([]:List ByteArray) 0) (bif allN (pinB ps) ps.length then .nxt (ps.map qN.Am,(ps.length:Int)) else .ret false):=by
  refine loopN (Lf:=qbw ps) (S:=fun j=>(ps.take j).map qN.Am) (pinB ps) (fun n=>?_) (fun j hj hp X hX=>?_)
  ·simp only [qbw,qj (je _),cond_false,List.take_length]
  ·simp only [qbw,qi hj,cond_true,qM hj,jd,qhj hj hl,qeo (g:=qN.Am) hj,lastE hj hl,bne,qaY,qcF,wS j]
   generalize hc:pinB ps j=c at hX ⊢
   unfold pinB at hc
   cases hd:decide (j+1=ps.length)
   ·rw [hd] at hc
    simp only [cond_false] at hc ⊢
    subst hc
    exact Ev.okP (fun h1=>Ev.okP1 (fun h2=>hX (by rw [h1,h2];rfl)))
   ·rw [hd] at hc
    simp only [cond_true] at hc ⊢
    subst hc
    refine Ev.okP (fun h1=>Ev.okP (fun h2=>Ev.chkP1 (fun h3=>hX (by rw [h1,h2,h3];rfl))))
 unfold qf8 pinsB
 refine Ev.bind hL ?_
 cases allN (pinB ps) ps.length
 ·exact .done
 ·simp only [cond_true,qa8,qcF,jd,show inI (ps.length:Int) 2 5=lenB ps 2 5 from qlN (lo:=2) (hi:=5),jx]
  exact Ev.andP (fun _=>Ev.last (qfR (qir h (fun x hx=>hx.Am))))
def pinS (ps:List qN) (j:Nat):Bool:=allN (neB (ps.map qN.Am) j) j&&((nameB (gt ps j).Am&&inI (gt ps j).Bj 0 500)&&(bif decide (j+1=ps.length) then ((gt ps j).Bl==2)&&(((gt ps j).Bj==0)&&!(gt ps j).Ay) else ((gt ps j).Bl==1)))
theorem qpJ {ps:List qN}:(lenB ps 2 5&&allN (pinS ps) ps.length)=pinsB ps:=by
 have e:namesB (ps.map qN.Am)=allN (fun j=>nameB (gt ps j).Am&&allN (neB (ps.map qN.Am) j) j) ps.length:=by
  unfold namesB
  rw [jF]
  exact qeN (fun j hj=>by rw [qgr hj])
 unfold pinsB
 rw [e,←Bool.and_assoc,Bool.and_comm (allN (pinB ps) ps.length),Bool.and_assoc,←qhm]
 congr 1
 refine qeN (fun j hj=>?_)
 unfold pinS pinB
 cases hd:decide (j+1=ps.length)
 ·simp only [cond_false]
  cases allN (neB (ps.map qN.Am) j) j<;>cases nameB (gt ps j).Am<;>cases inI (gt ps j).Bj 0 500<;>cases ((gt ps j).Bl==1)<;>rfl
 ·simp only [cond_true]
  cases hcap:((gt ps j).Bj==0)
  ·simp
  ·have:inI (gt ps j).Bj 0 500=true:=by rw [beq_iff_eq] at hcap;rw [hcap];rfl
   rw [this]
   cases allN (neB (ps.map qN.Am) j) j<;>cases nameB (gt ps j).Am<;>cases ((gt ps j).Bl==2)<;>cases (gt ps j).Ay<;>rfl
theorem qm2 {c:qn} (h:okL qh0 c.Ak):Ev (fun n=>qf6 n c) (bif pinsB c.Ak then (((clkN c.Ak c.Ak.length:Nat):Int),true) else (0,false)):=by
 have hl:=h.len
 have hL2:∀ j,j<c.Ak.length→Ev (fun n=>qcI c (j:Int) (gt c.Ak j) n 0) (bif allN (neB (c.Ak.map qN.Am) j) j then .nxt (j:Int) else .ret (0,false)):=by
  intro j hj
  refine qdl ?_ (fun i hi X hX=>Ev.succ ?_)
  ·exact Ev.succ (by simp only [qcI,qj (je _),cond_false];exact .done)
  ·simp only [qcI,qi hi,cond_true,qM (show i<c.Ak.length by omega),jd,qeE,wS i]
   unfold neB
   rw [qgr (g:=qN.Am) (show i<c.Ak.length by omega),qgr (g:=qN.Am) hj]
   exact Ev.chkP1 (fun _=>hX)
 have hL1:Ev (fun n=>qbu c n 0 0) (bif allN (pinS c.Ak) c.Ak.length then .nxt (((clkN c.Ak c.Ak.length:Nat):Int),(c.Ak.length:Int)) else .ret (0,false)):=by
  refine loopN (Lf:=qbu c) (S:=fun j=>((clkN c.Ak j:Nat):Int)) (pinS c.Ak) (fun n=>?_) (fun j hj hp X hX=>?_)
  ·simp only [qbu,qj (je _),cond_false]
  ·have hn:clkN c.Ak j≤j:=qdX
   have ejl:((j:Int)==W64 ((c.Ak.length:Int)-1))=decide (j+1=c.Ak.length):=lastE hj hl
   have elt:decide ((j:Int)<W64 ((c.Ak.length:Int)-1)) = !decide (j+1=c.Ak.length):=by
    rw [qew (by omega) (by omega),ji];simp;omega
   simp only [qbu,qi hj,cond_true,qM hj,jd,wS j,qhU (show clkN c.Ak j<9223372036854775807 by omega),ejl,elt,qcQ]
   unfold pinS
   refine Ev.bind (hL2 j hj) ?_
   cases ha:allN (neB (c.Ak.map qN.Am) j) j
   ·exact .done
   ·simp only [cond_true,jx]
    refine Ev.chkT ?_ (fun h1=>?_)
    ·exact Ev.or (qiL (qgL h hj).Am) (fun _=>.done)
    ·refine Ev.chkT1 ?_ (fun h2=>?_)
     ·cases decide (j+1=c.Ak.length)
      ·exact .done
      ·simp only [cond_true,jI,cond_false,bne,qaY]
       cases ((gt c.Ak j).Bl==2)<;>cases ((gt c.Ak j).Bj==0)<;>cases (gt c.Ak j).Ay<;>exact .done
     ·have hX:=hX (by unfold pinS;rw [ha,h1,h2];rfl)
      have hck:clkN c.Ak (j+1)=clkN c.Ak j+(bif (gt c.Ak j).Ay then 1 else 0):=rfl
      rw [hck] at hX
      cases hc:(gt c.Ak j).Ay
      ·rw [hc] at hX;exact Ev.ff rfl hX
      ·rw [hc] at hX;exact Ev.tt rfl hX
 rw [←qpJ]
 unfold qf6
 refine Ev.guard ?_ (fun h1=>?_)
 ·unfold lenB
  have e1:decide ((c.Ak.length:Int)<2) = !decide (2≤c.Ak.length):=by rw [ji];simp;omega
  have e2:decide ((c.Ak.length:Int) > 5) = !decide (c.Ak.length≤5):=by rw [ji];simp;omega
  rw [e1,e2]
  cases decide (2≤c.Ak.length)<;>cases decide (c.Ak.length≤5)<;>exact .done
 ·refine Ev.bind hL1 ?_
  cases allN (pinS c.Ak) c.Ak.length<;>exact .done
def mnL (xs:List Int):Int:=(xs.drop 1).foldl (fun m y=>if y<m then y else m) (at0 xs 0)
def mxL (xs:List Int):Int:=(xs.drop 1).foldl (fun m y=>if y > m then y else m) (at0 xs 0)
theorem qkn {t:qp} (h:tableB t=true):1≤t.As.length:=by
 unfold tableB axisB lenB at h
 simp only [jg,decide_eq_true_eq] at h
 obtain ⟨⟨⟨h1,_⟩,_⟩,⟨⟨h2,_⟩,_⟩,h3,_⟩:=h
 rw [h3]
 exact Nat.mul_pos h1 h2
theorem qpO {xs:List Int} (h1:1≤xs.length) (hl:xs.length≤1048576):Ev (fun n=>qef n xs) (mnL xs):=by
 have hL:=(qlD (Lf:=fun n t j=>qbr xs n t j) (xs:=xs) (step:=fun (m y:Int)=>if y<m then y else m) (fin:=fun t=>(t,(xs.length:Int))) 1 (at0 xs 0) (fun _ _=>True) h1 trivial (fun _ _ _ _=>trivial)
  (fun n t=>by simp only [qbr,qj (je _),cond_false])
  (fun j t hj _ X hX=>by simpa only [qbr,qi hj,cond_true,qgI hj,jd,wS j] using hX)).1
 unfold qef
 rw [show decide ((xs.length:Int)<1)=false by simp;omega,show idx xs (0:Int)=some (at0 xs 0) from qbc (j:=0) (by omega)]
 simp only [cond_false,jd]
 exact Ev.bind hL .done
theorem qmO {t:qp} (h:qe0 t):Ev (fun n=>qep n t) (bif tableB t then (⟨mnL t.As,mxL t.As⟩,0) else (⟨0,0⟩,1)):=by
 unfold qep
 refine Ev.chk1 (qmm h) (fun hb=>?_)
 have h1:=qkn hb
 have hl:=h.As.len
 have hL:=(qlD (Lf:=fun n (t':Int × Int) j=>qbs t n t'.1 t'.2 j) (xs:=t.As) (step:=fun (m:Int × Int) y=>(if y<m.1 then y else m.1,if y > m.2 then y else m.2)) (fin:=fun t'=>(t'.1,t'.2,(t.As.length:Int))) 1 (at0 t.As 0,at0 t.As 0) (fun _ _=>True) h1 trivial (fun _ _ _ _=>trivial)
  (fun n t=>by simp only [qbs,qj (je _),cond_false])
  (fun j t hj _ X hX=>by simpa only [qbs,qi hj,cond_true,qgI hj,jd,wS j] using hX)).1
 have hf:∀ (ys:List Int) (a b:Int),ys.foldl (fun (m:Int × Int) y=>(if y<m.1 then y else m.1,if y > m.2 then y else m.2)) (a,b)=(ys.foldl (fun m y=>if y<m then y else m) a,ys.foldl (fun m y=>if y > m then y else m) b):=by
  intro ys
  induction ys with
  | nil=>intro a b;rfl
  | cons y ys ih=>intro a b;simp only [List.foldl_cons,ih]
 rw [hf] at hL
 rw [show idx t.As (0:Int)=some (at0 t.As 0) from qbc (j:=0) (by omega)]
 simp only [jd]
 exact Ev.bind hL .done
def tabB (pos:Bool) (t:qp):Bool:=tableB t&&(!pos || decide (0≤mnL t.As))
def tablesB (ts:List qp) (pos:Bool):Bool:=decide (ts.length=2)&&ts.all (tabB pos)
theorem qht {ts:List qp} {pos:Bool} (h:okL qe0 ts):Ev (fun n=>qdf n ts pos) (tablesB ts pos):=by
 have hl:=h.len
 have h1:Ev (fun n=>qS n ts pos) (ixL (fun x=>!tabB pos x) ts) :=
  qfU (fin:=(ts.length:Int)) (Lf:=qv ts pos) (pf:=fun n x=>qen n x pos) (fun x hx=>by
    unfold qen tabB
    refine Ev.or (qm5 (h.2 x hx)) (fun hb=>?_)
    cases pos
    ·exact .done
    ·refine Ev.tt rfl (Ev.bind (qpO (qkn hb) (h.2 x hx).As.len) (Ev.now ?_))
     congr 1
     rw [ji];simp)
   (fun n=>by simp only [qv,qj (je _),cond_false])
   (fun n j x hx=>by
    have hj:=(List.getElem?_eq_some_iff.1 hx).1
    simp only [qv,qi hj,cond_true,qah hx,jd,wS j])
   (fun n=>by unfold qS;congr 1;funext o;cases o<;>rfl)
 unfold qdf qai tablesB
 rw [show ((ts.length:Int)==2)=decide (ts.length=2) by rw [ji];simp;omega]
 refine Ev.andP (fun _=>Ev.bind (Ev.bind h1 (Ev.now rfl)) (Ev.now ?_))
 rw [qiK,qki]
theorem qe8 {ts:List qp} {pos:Bool} (h:okL qe0 ts):Ev (fun n=>qbO n ts pos) (tablesB ts pos):=by
 unfold qbO tablesB
 rw [show ((ts.length:Int) != 2) = !decide (ts.length=2) by rw [ji];simp;omega]
 simp only [qaY]
 refine Ev.andP (fun h2=>?_)
 have h2:ts.length=2:=by simpa using h2
 have hL:Ev (fun n=>qbi ts pos n 0) (bif allN (fun j=>tabB pos (gt ts j)) ts.length then .nxt (2:Int) else .ret false):=by
  refine qdl (len:=ts.length) ?_ (fun j hj X hX=>Ev.succ ?_)
  ·rw [h2];exact Ev.succ (by simp only [qbi];exact .done)
  ·simp only [qbi,show decide ((j:Int)<2)=true by simp;omega,cond_true,qM hj,jd,wS j]
   refine Ev.bind (qmO (qgL h hj)) ?_
   unfold tabB
   cases tableB (gt ts j)
   ·exact .done
   ·simp only [cond_true,jx]
    refine Ev.ff rfl ?_
    cases pos
    ·exact hX
    ·refine Ev.tt rfl ?_
     rw [show decide (mnL (gt ts j).As<0) = !decide (0≤mnL (gt ts j).As) by rw [ji];simp]
     simp only [qaY]
     exact Ev.okP1 (fun _=>hX)
 rw [qfX]
 refine Ev.bind hL ?_
 cases allN (fun j=>tabB pos (gt ts j)) ts.length<;>exact .done
end Go.Fw


namespace Go.Fw
open Go
set_option maxRecDepth 100000
theorem qeK {α:Type} [Inhabited α] {xs:List α} {x:Int} (h0:0≤x) (h1:x<xs.length):idx xs x=some (gt xs x.toNat):=by
  have:=qM (xs:=xs) (j:=x.toNat) (by omega)
  rwa [←qjw h0] at this
theorem qlw {q:Nat→Bool} {m n:Nat} (h:m≤n):cntP q m≤cntP q n:=by
  induction n with
  | zero =>
    obtain rfl:m=0:=by omega
    exact je _
  | succ n ih =>
    rcases Nat.lt_or_eq_of_le h with h|rfl
    · exact Nat.le_trans (ih (by omega)) (Nat.le_add_right _ _)
    · exact je _
theorem qhF {m k:Nat}:decide ((m:Int)≤(k:Int))=decide (m≤k):=by rw [ji];simp
theorem qmn {q:Nat→Bool} {n i j:Nat} (hi:i<j) (hj:j<n) (h1:q i=true) (h2:q j=true):2≤cntP q n:=by
  have e1:cntP q (i+1)=cntP q i+1:=by rw [cntP,h1];rfl
  have e2:cntP q (j+1)=cntP q j+1:=by rw [cntP,h2];rfl
  have m1:=qlw (q:=q) (show i+1≤j by omega)
  have m2:=qlw (q:=q) (show j+1≤n by omega)
  omega
theorem qoU {q:Nat→Bool} {n i j:Nat} (hn:cntP q n≤1) (hi:i<n) (hj:j<n) (h1:q i=true) (h2:q j=true):i=j:=by
  rcases Nat.lt_trichotomy i j with h|h|h
  · have:=qmn h hj h1 h2;omega
  · exact h
  · have:=qmn h hi h2 h1;omega
def clkIx (ps:List qN):Int:=ixL (fun p=>p.Ay) ps
def clkAt (ps:List qN) (x:Int):Bool:=(gt ps x.toNat).Ay
theorem qoM {c:qn} (hl:c.Ak.length≤1048576):Ev (fun n=>qeI n c) (clkIx c.Ak):=by
  unfold qeI
  refine Ev.bind (b:=clkIx c.Ak) ?_ .done
  exact qfU (fin:=(c.Ak.length:Int)) (Lf:=qw c.Ak) (pf:=fun n x=>qfe n x) (fun _ _=>.done)
    (fun n=>by simp only [qw,qj (je _),cond_false])
    (fun n j x hx=>by
      have hj:=(List.getElem?_eq_some_iff.1 hx).1
      simp only [qw,qi hj,cond_true,qah hx,jd,wS j])
    (fun n=>by unfold qaC;congr 1;funext o;cases o<;>rfl)
def arcI (ps:List qN) (a:qH):Bool :=
  bif (a.Ap==4) || (a.Ap==5) then
    (a.Bf==0)&&(((a.Bk.length:Int)==0)&&(tablesB a.Bd false&&((a.Av==clkIx ps)&&(decide (a.Av ≥ 0)&&(inI a.To 0 (ps.length-2)&&!(a.To==a.Av))))))
  else
    (tablesB a.Bd true&&(tablesB a.Bk true&&((a.To==(ps.length:Int)-1)&&inI a.Av 0 (ps.length-2)))) &&
      (bif a.Ap==1 then !clkAt ps a.Av&&inI a.Bf 1 3 else (bif (a.Ap==2) || (a.Ap==3) then clkAt ps a.Av&&(a.Bf==0) else false))
def arcS (ps:List qN) (a:qH):Bool :=
  (inI a.Av 0 (ps.length-2)&&inI a.To 0 (ps.length-1)) &&
    (bif a.Ap==1 then !clkAt ps a.Av&&((a.To==(ps.length:Int)-1)&&(inI a.Bf 1 3&&(tablesB a.Bd true&&tablesB a.Bk true)))
     else (bif (a.Ap==2) || (a.Ap==3) then clkAt ps a.Av&&((a.To==(ps.length:Int)-1)&&((a.Bf==0)&&(tablesB a.Bd true&&tablesB a.Bk true)))
     else (bif (a.Ap==4) || (a.Ap==5) then clkAt ps a.Av&&(decide (a.To<(ps.length:Int)-1)&&(!clkAt ps a.To&&((a.Bf==0)&&(tablesB a.Bd false&&((a.Bk.length:Int)==0))))) else false)))
theorem qjG {c d:Bool}:(bif c then some c else some d)=some (c || d):=by cases c<;>rfl
theorem qmz {c d:Bool}:(bif c then some true else some d)=some (c || d):=by cases c<;>rfl
theorem qm8 {n:Nat} {k:Int}:qgl n k=some ((k==4) || (k==5)):=by simp only [qgl,qmz]
theorem qov {c:qn} {a:qH} (h:okL qh0 c.Ak) (ha:qiN a) (hm:2≤c.Ak.length):Ev (fun n=>qeH n c a) (arcI c.Ak a):=by
  have hl:=h.len
  have e1:W64 ((c.Ak.length:Int)-1)=(c.Ak.length:Int)-1:=qbQ (by omega)
  have e2:W64 ((c.Ak.length:Int)-1-1)=(c.Ak.length:Int)-2:=by rw [qew (by omega) (by omega)];omega
  simp only [qeH,qm8,jd,qdZ,qcp,qa8,e1,e2,qcF,qjG,bne]
  unfold arcI
  refine Ev.iff (fun _=>Ev.last ?_) (fun _=>Ev.guardB ?_ (fun hb=>?_))
  · exact Ev.andP fun _=>Ev.andP fun _=>Ev.and (qht ha.Bd) fun _=>Ev.bind (qoM hl) (Ev.andP fun _=>Ev.andP fun _=>Ev.andP fun _=>.done)
  · refine Ev.or (qht ha.Bd) fun _=>Ev.or (qht ha.Bk) fun _=>?_
    simp only [qaY]
    exact Ev.orBP fun _=>.done
  · have hf:0≤a.Av∧a.Av≤(c.Ak.length:Int)-2:=by
      simp only [jg,qbp] at hb
      exact hb.2.2.2
    simp only [qeK hf.1 (show a.Av<(c.Ak.length:Int) by omega),jd]
    exact Ev.iff (fun _=>Ev.andP fun _=>.done) (fun _=>Ev.iff (fun _=>Ev.andP fun _=>.done) (fun _=>.done))
theorem qn1 {c:qn} {a:qH} (h:okL qh0 c.Ak) (ha:qiN a) (hm:2≤c.Ak.length):Ev (fun n=>qg3 n c a) (arcS c.Ak a):=by
  have hl:=h.len
  have e1:W64 ((c.Ak.length:Int)-1)=(c.Ak.length:Int)-1:=qbQ (by omega)
  have e2:W64 ((c.Ak.length:Int)-1-1)=(c.Ak.length:Int)-2:=by rw [qew (by omega) (by omega)];omega
  simp only [qg3,jd,e1,e2,qcQ,qjG]
  unfold arcS
  refine Ev.guardB ?_ (fun hb=>?_)
  · simp only [qaY]
    exact Ev.orBP fun _=>.done
  · have hf:(0≤a.Av∧a.Av≤(c.Ak.length:Int)-2)∧(0≤a.To∧a.To≤(c.Ak.length:Int)-1):=by
      simp only [jg,qbp] at hb
      exact hb
    simp only [qeK hf.1.1 (show a.Av<(c.Ak.length:Int) by omega),qeK hf.2.1 (show a.To<(c.Ak.length:Int) by omega),jd]
    refine Ev.iff (fun _=>?_) (fun _=>Ev.iff (fun _=>?_) (fun _=>Ev.iff (fun _=>?_) (fun _=>.done)))
    · exact Ev.andP fun _=>Ev.andP fun _=>Ev.andP fun _=>Ev.and (qe8 ha.Bd) fun _=>Ev.last (qe8 ha.Bk)
    · exact Ev.andP fun _=>Ev.andP fun _=>Ev.andP fun _=>Ev.and (qe8 ha.Bd) fun _=>Ev.last (qe8 ha.Bk)
    · exact Ev.andP fun _=>Ev.andP fun _=>Ev.andP fun _=>Ev.andP fun _=>Ev.and (qe8 ha.Bd) fun _=>.done
theorem qjz {ps:List qN} (h1:clkN ps ps.length≤1) {x:Int} (hx:0≤x):clkIx ps=x↔x<ps.length∧clkAt ps x=true:=by
  unfold clkIx ixL
  cases hf:ps.findIdx? (fun p=>p.Ay) with
  | some j =>
    obtain ⟨hj,hp,_⟩:=List.findIdx?_eq_some_iff_getElem.1 hf
    have hpj:(gt ps j).Ay=true:=by rw [qiE hj];exact hp
    constructor
    · intro e
      have e:(j:Int)=x:=e
      subst e
      exact ⟨by omega,by unfold clkAt;rw [jE];exact hpj⟩
    · rintro ⟨hl,hc⟩
      have:=qoU h1 hj (show x.toNat<ps.length by omega) hpj hc
      show (j:Int)=x
      omega
  | none =>
    have hn:=List.findIdx?_eq_none_iff.1 hf
    constructor
    · intro e
      have e:(-1:Int)=x:=e
      omega
    · rintro ⟨hl,hc⟩
      have hxl:x.toNat<ps.length:=by omega
      unfold clkAt at hc
      rw [qiE hxl] at hc
      have:=hn _ (jt hxl)
      rw [hc] at this
      exact absurd this (by decide)
theorem qgO {ps:List qN} (h:pinsB ps=true):(2≤ps.length∧ps.length≤5)∧clkAt ps ((ps.length:Int)-1)=false:=by
  unfold pinsB lenB at h
  simp only [jg,decide_eq_true_eq] at h
  refine ⟨h.2.1,?_⟩
  have h1:=qW.1 h.1 (ps.length-1) (by omega)
  unfold pinB at h1
  rw [show decide (ps.length-1+1=ps.length)=true by simp;omega] at h1
  simp only [cond_true,jg,jD] at h1
  unfold clkAt
  rw [show ((ps.length:Int)-1).toNat=ps.length-1 by omega]
  exact h1.2.2
theorem qqb {ps:List qN} {a:qH} (h:pinsB ps=true) (h1:clkN ps ps.length≤1):arcI ps a=arcS ps a:=by
  obtain ⟨⟨hm,hm5⟩,hlast⟩:=qgO h
  rw [ji]
  unfold arcI arcS
  cases h45:((a.Ap==4) || (a.Ap==5)) with
  | true =>
    have k1:(a.Ap==1)=false:=by simp at h45 ⊢;omega
    have k23:((a.Ap==2) || (a.Ap==3))=false:=by simp at h45 ⊢;omega
    rw [k1,k23]
    simp only [cond_true,cond_false,jg,qbp,decide_eq_true_eq,beq_iff_eq,jD,beq_eq_false_iff_ne,ne_eq]
    constructor
    · rintro ⟨hs,hsl,hd,hf,hf0,ht,hne⟩
      obtain ⟨hl,hc⟩:=(qjz h1 hf0).1 hf.symm
      have hfl:a.Av ≠ (ps.length:Int)-1:=by intro e;rw [e,hlast] at hc;cases hc
      refine ⟨⟨⟨hf0,by omega⟩,⟨ht.1,by omega⟩⟩,hc,by omega,?_,hs,hd,hsl⟩
      cases hct:clkAt ps a.To with
      | false=>rfl
      | true =>
        have:=(qjz h1 ht.1).2 ⟨by omega,hct⟩
        omega
    · rintro ⟨⟨hf,ht⟩,hc,hlt,hct,hs,hd,hsl⟩
      have:=(qjz h1 hf.1).2 ⟨by omega,hc⟩
      refine ⟨hs,hsl,hd,this.symm,hf.1,⟨ht.1,by omega⟩,?_⟩
      intro e
      rw [e,hc] at hct
      cases hct
  | false =>
    simp only [cond_false,jg,qbp,beq_iff_eq]
    cases (a.Ap==1)
    · cases ((a.Ap==2) || (a.Ap==3))
      · simp
      · simp only [cond_true,cond_false,jg,beq_iff_eq]
        constructor
        · rintro ⟨⟨h1,h2,h3,h4⟩,h5,h6⟩
          exact ⟨⟨h4,by omega⟩,h5,h3,h6,h1,h2⟩
        · rintro ⟨⟨h4,h7⟩,h5,h3,h6,h1,h2⟩
          exact ⟨⟨h1,h2,h3,h4⟩,h5,h6⟩
    · simp only [cond_true,jg,qbp,jD,beq_iff_eq]
      constructor
      · rintro ⟨⟨h1,h2,h3,h4⟩,h5,h6⟩
        exact ⟨⟨h4,by omega⟩,h5,h3,h6,h1,h2⟩
      · rintro ⟨⟨h4,h7⟩,h5,h3,h6,h1,h2⟩
        exact ⟨⟨h1,h2,h3,h4⟩,h5,h6⟩
theorem qnA {ps:List qN} {a:qH} (h:arcS ps a=true):1≤a.Ap∧a.Ap≤5:=by
  unfold arcS at h
  rw [jg] at h
  have h:=h.2
  cases h1:(a.Ap==1)
  · cases h2:((a.Ap==2) || (a.Ap==3))
    · cases h4:((a.Ap==4) || (a.Ap==5))
      · rw [h1,h2,h4] at h;cases h
      · simp at h4;omega
    · simp at h2;omega
  · simp at h1;omega
def sameArc (x y:qH):Bool:=(x.Ap==y.Ap)&&((x.Av==y.Av)&&(x.To==y.To))
def newArc (ar:List qH) (j:Nat):Bool:=allN (fun i=>!sameArc (gt ar i) (gt ar j)) j
theorem qmV {c:qn} (h:okL qh0 c.Ak) (ha:okL qiN c.Ar) (hm:2≤c.Ak.length):Ev (fun n=>qdS n c) (allN (fun j=>arcI c.Ak (gt c.Ar j)&&newArc c.Ar j) c.Ar.length&&decide (c.Ar.length≤8)):=by
  have hl:=ha.len
  have h1:∀ (ar:List qH) (y:qH),ar.length≤1048576→Ev (fun n=>qL n ar y) (ar.any fun x=>sameArc x y):=by
    intro ar y hl
    unfold qL
    refine Ev.bind (b:=ixL (fun x=>sameArc x y) ar) (qfU (fin:=(ar.length:Int)) (Lf:=qu ar y) (pf:=fun n x=>qc4 n x y) (fun x _=>?_)
      (fun n=>by simp only [qu,qj (je _),cond_false])
      (fun n j x hx=>by
        have hj:=(List.getElem?_eq_some_iff.1 hx).1
        simp only [qu,qi hj,cond_true,qah hx,jd,wS j])
      (fun n=>by unfold qaq;congr 1;funext o;cases o<;>rfl)) (Ev.now (by rw [qiK]))
    unfold qc4 sameArc
    exact Ev.andP fun _=>Ev.andP fun _=>.done
  have hL:Ev (fun n=>qba c n 0) (bif allN (fun j=>arcI c.Ak (gt c.Ar j)&&newArc c.Ar j) c.Ar.length then .nxt (c.Ar.length:Int) else .ret false):=by
    refine qdl ?_ (fun j hj X hX=>Ev.succ ?_)
    · exact Ev.succ (by simp only [qba,qj (je _),cond_false];exact .done)
    · simp only [qba,qi hj,cond_true,qM hj,jd,qnV (Nat.le_of_lt hj),wS j]
      refine Ev.chk (qov h (qgL ha hj) hm) fun _=>Ev.chkT1 ?_ (fun _=>hX)
      refine (h1 _ _ (by simp;omega)).cast ?_
      rw [qoN (Nat.le_of_lt hj)];rfl
  unfold qdS
  refine Ev.bind hL ?_
  cases allN (fun j=>arcI c.Ak (gt c.Ar j)&&newArc c.Ar j) c.Ar.length
  · exact .done
  · refine Ev.now ?_
    show some (decide ((c.Ar.length:Int)≤((8:Nat):Int)))=some (true&&decide (c.Ar.length≤8))
    rw [qhF,jx]
def hasB (ar:List qH) (k:Int):Bool:=ar.any fun a=>a.Ap==k
theorem qjs {c:qn} {k:Int} (hl:c.Ar.length≤1048576):Ev (fun n=>qbK n c k) (hasB c.Ar k):=by
  unfold qbK qax
  exact Ev.last (Ev.bind (b:=ixL (fun x=>x.Ap==k) c.Ar) (qfU (fin:=(c.Ar.length:Int)) (Lf:=qy c.Ar k) (pf:=fun n x=>qfY n x k) (fun x _=>.done)
      (fun n=>by simp only [qy,qj (je _),cond_false])
      (fun n j x hx=>by
        have hj:=(List.getElem?_eq_some_iff.1 hx).1
        simp only [qy,qi hj,cond_true,qah hx,jd,wS j])
      (fun n=>by unfold qaG;congr 1;funext o;cases o<;>rfl)) (Ev.now (by rw [qiK];rfl)))
def kindN (ar:List qH) (k:Nat) (j:Nat):Nat:=cntP (fun i=>(gt ar i).Ap==(k:Int)) j
theorem qlM {ar:List qH} {k:Nat}:decide (((kindN ar k ar.length:Nat):Int) > 0)=hasB ar k:=by
  rw [show decide (((kindN ar k ar.length:Nat):Int) > 0)=decide (0<kindN ar k ar.length) by simp]
  unfold kindN hasB
  rw [qoA,qo1]
theorem qm9 {ar:List qH} {k:Nat}:(((kindN ar k ar.length:Nat):Int)==0) = !hasB ar k:=by
  rw [←qlM,ji];simp
theorem qmH {c:qn} (ha:okL qiN c.Ar) (hk:∀ j,j<c.Ar.length→1≤(gt c.Ar j).Ap∧(gt c.Ar j).Ap≤5):Ev (fun n=>qfv n c) (vecC (fun k=>kindN c.Ar k c.Ar.length) 6):=by
  have hl:=ha.len
  have hL:Ev (fun n=>qbE c n (vecC (fun _=>0) 6) 0) (vecC (fun k=>kindN c.Ar k c.Ar.length) 6,(c.Ar.length:Int)):=by
    refine loopF (Lf:=qbE c) (S:=fun j=>vecC (fun k=>kindN c.Ar k j) 6) (len:=c.Ar.length) (fun n=>?_) (fun j hj X hX=>?_)
    · simp only [qbE,qj (je _),cond_false]
    · obtain ⟨k1,k5⟩:=hk j hj
      have ek:(gt c.Ar j).Ap=(((gt c.Ar j).Ap.toNat:Nat):Int):=qjw (by omega)
      have hc:kindN c.Ar (gt c.Ar j).Ap.toNat j≤j:=qdX
      simp only [qbE,qi hj,cond_true,qM hj,jd,wS j]
      rw [ek,qgE (show (gt c.Ar j).Ap.toNat<6 by omega)]
      simp only [jd]
      rw [qlL (c:=fun k=>kindN c.Ar k j) (by show kindN c.Ar _ j<_;omega)]
      have:vecC (fun i=>kindN c.Ar i j+(bif decide ((gt c.Ar j).Ap.toNat=i) then 1 else 0)) 6=vecC (fun k=>kindN c.Ar k (j+1)) 6:=by
        refine qgJ (fun k _=>?_)
        show _=kindN c.Ar k j+(bif (gt c.Ar j).Ap==(k:Int) then 1 else 0)
        congr 2
        rw [ji];simp;omega
      rw [this]
      exact hX
  unfold qfv
  rw [show mkS 6 (0:Int)=some (vecC (fun _=>0) 6) from qip (m:=6) (by omega)]
  simp only [jd]
  exact Ev.bind hL .done
def kindB (c:qn):Bool :=
  bif c.Ap==1 then (((clkN c.Ak c.Ak.length:Nat):Int)==0)&&(((c.Az.length:Int)==((2 ^ (c.Ak.length-1):Nat):Int))&&(c.Az.all fun x=>inI x 0 1))
  else bif c.Ap==2 then (((clkN c.Ak c.Ak.length:Nat):Int)==1)&&(((c.Az.length:Int)==0)&&(!hasB c.Ar 1&&!(hasB c.Ar 2==hasB c.Ar 3)))
  else bif c.Ap==3 then (((clkN c.Ak c.Ak.length:Nat):Int)==1)&&(((c.Az.length:Int)==0)&&(hasB c.Ar 1&&(hasB c.Ar 2&&!hasB c.Ar 3)))
  else false
theorem qnL {c:qn} (h:kindB c=true):clkN c.Ak c.Ak.length≤1:=by
  unfold kindB at h
  cases h1:(c.Ap==1)
  · cases h2:(c.Ap==2)
    · cases h3:(c.Ap==3)
      · rw [h1,h2,h3] at h;cases h
      · rw [h1,h2,h3] at h
        simp only [cond_true,cond_false,jg,beq_iff_eq] at h
        omega
    · rw [h1,h2] at h
      simp only [cond_true,cond_false,jg,beq_iff_eq] at h
      omega
  · rw [h1] at h
    simp only [cond_true,jg,beq_iff_eq] at h
    omega
theorem qmx {m:Nat} (h1:2≤m) (h2:m≤5):shlS 1 (W64 ((m:Int)-1))=some ((2 ^ (m-1):Nat):Int)∧shlS 1 (IntKind.wrap .u64 (W64 ((m:Int)-1)))=some ((2 ^ (m-1):Nat):Int):=by
  have:m=2∨m=3∨m=4∨m=5:=by omega
  rcases this with rfl|rfl|rfl|rfl<;>exact ⟨by decide,by decide⟩
theorem qme {c:qn} (hc:qiq c) (hm:2≤c.Ak.length) (hm5:c.Ak.length≤5):Ev (fun n=>qdp n c) (kindB c):=by
  have hl:=hc.Ak.len
  have hL:Ev (fun n=>qas c n 0 0) (((clkN c.Ak c.Ak.length:Nat):Int),(c.Ak.length:Int)):=by
    refine loopF (Lf:=qas c) (S:=fun j=>((clkN c.Ak j:Nat):Int)) (len:=c.Ak.length) (fun n=>?_) (fun j hj X hX=>?_)
    · simp only [qas,qj (je _),cond_false]
    · have hn:clkN c.Ak j≤j:=qdX
      simp only [qas,qi hj,cond_true,qM hj,jd,wS j,qhU (show clkN c.Ak j<9223372036854775807 by omega)]
      have hck:clkN c.Ak (j+1)=clkN c.Ak j+(bif (gt c.Ak j).Ay then 1 else 0):=rfl
      rw [hck] at hX
      cases hc:(gt c.Ak j).Ay
      · rw [hc] at hX;exact Ev.ff rfl hX
      · rw [hc] at hX;exact Ev.tt rfl hX
  unfold qdp kindB
  refine Ev.bind hL ?_
  simp only [qcp,qa8,jd,(qmx hm hm5).1]
  have hal:=hc.Ar.len
  refine Ev.iff (fun _=>?_) (fun _=>Ev.iff (fun _=>?_) (fun _=>Ev.iff (fun _=>?_) (fun _=>.done)))
  · exact Ev.andP fun _=>Ev.andP fun _=>Ev.last (qdo hc.Az.len)
  · exact Ev.andP fun _=>Ev.andP fun _=>Ev.bind (qjs hal) (Ev.andP fun _=>Ev.bind (qjs hal) (Ev.bind (qjs hal) .done))
  · exact Ev.andP fun _=>Ev.andP fun _=>Ev.and (qjs hal) fun _=>Ev.and (qjs hal) fun _=>Ev.bind (qjs hal) .done
def cellB (c:qn):Bool :=
  nameB c.Am&&(pinsB c.Ak&&((allN (fun j=>arcI c.Ak (gt c.Ar j)&&newArc c.Ar j) c.Ar.length&&decide (c.Ar.length≤8))&&(inI c.Bo 0 100000&&(inI c.Bh 0 100000&&kindB c))))
theorem qnE {c:qn} (hc:qiq c):Ev (fun n=>qgZ n c) (cellB c):=by
  simp only [qgZ,qlB hc.Am,qcF,jd]
  unfold cellB
  refine Ev.andP fun _=>Ev.and (qm7 hc.Ak) fun hp=>?_
  obtain ⟨⟨hm,hm5⟩,_⟩:=qgO hp
  exact Ev.and (qmV hc.Ak hc.Ar hm) fun _=>Ev.andP fun _=>Ev.andP fun _=>Ev.last (qme hc hm hm5)
theorem qmT {c:qn} (hc:qiq c):Ev (fun n=>qgV n c) (cellB c):=by
  have hal:=hc.Ar.len
  have htl:=hc.Az.len
  have e:cellB c=((pinsB c.Ak&&(nameB c.Am&&(decide (c.Ar.length≤8)&&(inI c.Bo 0 100000&&inI c.Bh 0 100000))))&&(allN (fun j=>arcS c.Ak (gt c.Ar j)&&newArc c.Ar j) c.Ar.length&&kindB c)):=by
    unfold cellB
    cases hk:kindB c
    · simp
    · cases hp:pinsB c.Ak
      · simp
      · rw [qeN (fun j _=>by rw [qqb hp (qnL hk)])]
        cases nameB c.Am<;>cases allN (fun j=>arcS c.Ak (gt c.Ar j)&&newArc c.Ar j) c.Ar.length<;>cases decide (c.Ar.length≤8)<;>cases inI c.Bo 0 100000<;>cases inI c.Bh 0 100000<;>rfl
  rw [e]
  unfold qgV
  refine Ev.bind (qm2 hc.Ak) ?_
  cases hp:pinsB c.Ak
  · exact .done
  · obtain ⟨⟨hm,hm5⟩,_⟩:=qgO hp
    simp only [cond_true,jx,jI,cond_false]
    refine Ev.guardB ?_ (fun _=>?_)
    · simp only [qcQ,jd,qaY]
      refine Ev.orB (qiL hc.Am) fun _=>?_
      rw [show decide ((c.Ar.length:Int) > 8) = !decide (c.Ar.length≤8) by rw [ji];simp;omega,qaY]
      exact Ev.orBP fun _=>Ev.orBP fun _=>.done
    · have hL2:∀ j,j<c.Ar.length→Ev (fun n=>qbL c (j:Int) (gt c.Ar j) n 0) (bif newArc c.Ar j then .nxt (j:Int) else .ret false):=by
        intro j hj
        refine qdl ?_ (fun i hi X hX=>Ev.succ ?_)
        · exact Ev.succ (by simp only [qbL,qj (je _),cond_false];exact .done)
        · simp only [qbL,qi hi,cond_true,qM (show i<c.Ar.length by omega),jd,wS i]
          unfold sameArc
          cases ((gt c.Ar i).Ap==(gt c.Ar j).Ap)
          · exact hX
          · cases ((gt c.Ar i).Av==(gt c.Ar j).Av)
            · exact hX
            · cases ((gt c.Ar i).To==(gt c.Ar j).To)
              · exact hX
              · exact .done
      have hL1:Ev (fun n=>qde c n 0) (bif allN (fun j=>arcS c.Ak (gt c.Ar j)&&newArc c.Ar j) c.Ar.length then .nxt (c.Ar.length:Int) else .ret false):=by
        refine qdl ?_ (fun j hj X hX=>Ev.succ ?_)
        · exact Ev.succ (by simp only [qde,qj (je _),cond_false];exact .done)
        · simp only [qde,qi hj,cond_true,qM hj,jd,wS j]
          refine Ev.chk (qn1 hc.Ak (qgL hc.Ar hj) hm) fun _=>Ev.bind (hL2 j hj) ?_
          cases newArc c.Ar j
          · exact .done
          · exact hX
      have hL3:Ev (fun n=>qdi c n 0) (bif (c.Az.all fun x=>inI x 0 1) then .nxt (c.Az.length:Int) else .ret false) :=
        qiX (fun n=>by simp only [qdi,qj (je _),cond_false]) (fun j hj X hX=>by
          simp only [qdi,qi hj,cond_true,qgI hj,jd,qcQ,wS j,qaY]
          exact Ev.okP1 fun _=>hX)
      refine Ev.bind hL1 ?_
      cases hA:allN (fun j=>arcS c.Ak (gt c.Ar j)&&newArc c.Ar j) c.Ar.length
      · exact .done
      · have hk:∀ j,j<c.Ar.length→1≤(gt c.Ar j).Ap∧(gt c.Ar j).Ap≤5:=fun j hj=>by
          have:=qW.1 hA j hj
          rw [jg] at this
          exact qnA this.1
        simp only [cond_true,jx]
        refine Ev.bind (qmH hc.Ar hk) ?_
        simp only [(qmx hm hm5).2,jd,
          show idx (vecC (fun k=>kindN c.Ar k c.Ar.length) 6) (1:Int)=some ((kindN c.Ar 1 c.Ar.length:Nat):Int) from qgE (k:=1) (by omega),
          show idx (vecC (fun k=>kindN c.Ar k c.Ar.length) 6) (2:Int)=some ((kindN c.Ar 2 c.Ar.length:Nat):Int) from qgE (k:=2) (by omega),
          show idx (vecC (fun k=>kindN c.Ar k c.Ar.length) 6) (3:Int)=some ((kindN c.Ar 3 c.Ar.length:Nat):Int) from qgE (k:=3) (by omega),qlM,qm9]
        unfold kindB
        refine Ev.iff (fun _=>?_) (fun _=>Ev.iff (fun _=>?_) (fun _=>Ev.iff (fun _=>?_) (fun _=>.done)))
        · refine Ev.bind hL3 ?_
          cases (c.Az.all fun x=>inI x 0 1)
          · exact Ev.now (by simp)
          · exact (Ev.andP (fun _=>.done)).cast (by rw [Bool.and_true])
        · refine (Ev.andP fun _=>Ev.andP fun _=>Ev.andP fun _=>.done).cast ?_
          cases (((clkN c.Ak c.Ak.length:Nat):Int)==1)<;>cases ((c.Az.length:Int)==0)<;>cases hasB c.Ar ((1:Nat):Int)<;>cases hasB c.Ar ((2:Nat):Int)<;>cases hasB c.Ar ((3:Nat):Int)<;>rfl
        · refine (Ev.andP fun _=>Ev.andP fun _=>Ev.andP fun _=>Ev.andP fun _=>.done).cast ?_
          cases (((clkN c.Ak c.Ak.length:Nat):Int)==1)<;>cases ((c.Az.length:Int)==0)<;>cases hasB c.Ar ((1:Nat):Int)<;>cases hasB c.Ar ((2:Nat):Int)<;>cases hasB c.Ar ((3:Nat):Int)<;>rfl
def libB (l:qh):Bool:=l.Aj.all cellB&&(decide (l.Aj.length≤8)&&namesB (l.Aj.map qn.Am))
theorem ql7 {l:qh} (h:qeL l):Ev (fun n=>qfd n l) (libB l):=by
  have hl:=h.Aj.len
  have hL:Ev (fun n=>qbo l n ([]:List ByteArray) 0) (bif allN (fun j=>cellB (gt l.Aj j)) l.Aj.length then .nxt (l.Aj.map qn.Am,(l.Aj.length:Int)) else .ret false):=by
    refine loopN (Lf:=qbo l) (S:=fun j=>(l.Aj.take j).map qn.Am) (fun j=>cellB (gt l.Aj j)) (fun n=>?_) (fun j hj hp X hX=>?_)
    · simp only [qbo,qj (je _),cond_false,List.take_length]
    · simp only [qbo,qi hj,cond_true,qM hj,jd,qhj hj hl,qeo (g:=qn.Am) hj,wS j]
      exact Ev.chk1 (qnE (qgL h.Aj hj)) hX
  unfold qfd libB
  rw [qfX]
  refine Ev.bind hL ?_
  cases allN (fun j=>cellB (gt l.Aj j)) l.Aj.length
  · exact .done
  · simp only [cond_true,jx,show decide ((l.Aj.length:Int)≤8)=decide (l.Aj.length≤8) from qhF (k:=8)]
    exact Ev.andP fun _=>Ev.last (qfR (qir h.Aj (fun x hx=>hx.Am)))
end Go.Fw


namespace Go.Fw
open Go
set_option maxRecDepth 100000
theorem qmS {c:qn} (h:cellB c=true):nameB c.Am=true:=by
 unfold cellB at h;rw [jg] at h;exact h.1
theorem qkV {c:qn} (h:cellB c=true):pinsB c.Ak=true:=by
 unfold cellB at h;simp only [jg] at h;exact h.2.1
theorem qk8 {l:qh} (h:qeL l):Ev (fun n=>qfa n l) (libB l):=by
 have hl:=h.Aj.len
 have hL2:∀ j,j<l.Aj.length→Ev (fun n=>qbS l (j:Int) n 0) (bif allN (neB (l.Aj.map qn.Am) j) j then .nxt (j:Int) else .ret false):=by
  intro j hj
  refine qdl ?_ (fun i hi X hX=>Ev.succ ?_)
  ·exact Ev.succ (by simp only [qbS,qj (je _),cond_false];exact .done)
  ·simp only [qbS,qi hi,cond_true,qM (show i<l.Aj.length by omega),qM hj,jd,qeE,wS i]
   unfold neB
   rw [qgr (g:=qn.Am) (show i<l.Aj.length by omega),qgr (g:=qn.Am) hj]
   exact Ev.chkP1 (fun _=>hX)
 have hL1:Ev (fun n=>qbX l n 0) (bif allN (fun j=>cellB (gt l.Aj j)&&allN (neB (l.Aj.map qn.Am) j) j) l.Aj.length then .nxt (l.Aj.length:Int) else .ret false):=by
  refine qdl ?_ (fun j hj X hX=>Ev.succ ?_)
  ·exact Ev.succ (by simp only [qbX,qj (je _),cond_false];exact .done)
  ·simp only [qbX,qi hj,cond_true,qM hj,jd,wS j]
   refine Ev.chk (qmT (qgL h.Aj hj)) fun _=>Ev.bind (hL2 j hj) ?_
   cases allN (neB (l.Aj.map qn.Am) j) j
   ·exact .done
   ·exact hX
 have e:libB l=(allN (fun j=>cellB (gt l.Aj j)&&allN (neB (l.Aj.map qn.Am) j) j) l.Aj.length&&decide (l.Aj.length≤8)):=by
  unfold libB namesB
  rw [qfX,jF,Bool.and_comm (decide (l.Aj.length≤8)),←Bool.and_assoc,←qhm]
  congr 1
  refine qeN (fun j hj=>?_)
  rw [qgr (g:=qn.Am) hj]
  cases hc:cellB (gt l.Aj j)
  ·rfl
  ·rw [qmS hc];rfl
 rw [e]
 unfold qfa
 refine Ev.bind hL1 ?_
 cases allN (fun j=>cellB (gt l.Aj j)&&allN (neB (l.Aj.map qn.Am) j) j) l.Aj.length
 ·exact .done
 ·refine Ev.now ?_
  show some (decide ((l.Aj.length:Int)≤((8:Nat):Int)))=some (true&&decide (l.Aj.length≤8))
  rw [qhF,jx]
theorem qhg {c c':Nat→Nat} {m:Nat} {x:Int} (h0:0≤x) (h1:x<m) (hc:c x.toNat<9223372036854775807) (he:∀ k,k<m→c' k=c k+(bif x==(k:Int) then 1 else 0)) :
  idx (vecC c m) x=some (c x.toNat:Int)∧setS (vecC c m) x (W64 ((c x.toNat:Int)+1))=vecC c' m:=by
 have ex:x=(x.toNat:Int):=qjw h0
 have e1:=qgE (c:=c) (m:=m) (k:=x.toNat) (by omega)
 have e2:=qlL (c:=c) (m:=m) (k:=x.toNat) hc
 rw [←ex] at e1 e2
 refine ⟨e1,e2.trans (qgJ (fun k hk=>?_))⟩
 rw [he k hk]
 congr 2
 rw [ji];simp;omega
def netB (d:qb) (x:Int):Bool:=inI x 0 ((d.Af.length:Int)-1)
theorem qmC {n:Nat} {d:qb} {x:Int} (hl:d.Af.length≤1048576):qbU n d x=some (netB d x):=by
 simp only [qbU,qeJ,jd,qcF,qbQ (show d.Af.length≤9223372036854775807 by omega)];rfl
theorem qlo {n:Nat} {d:qb} {x:Int} (hl:d.Af.length≤1048576):qO n x 0 (W64 ((d.Af.length:Int)-1))=some (netB d x):=by
 rw [qcQ,qbQ (show d.Af.length≤9223372036854775807 by omega)];rfl
def hasNamesB (d:qb):Bool:=(decide (d.Aa.length≤14)&&(decide (d.Af.length≤30)&&decide (d.Ac.length≤8)))&&(namesB (d.Aa.map qd.Am)&&(namesB d.Af&&namesB (d.Ac.map qI.Am)))
theorem qmr {d:qb} (h:qgt d):Ev (fun n=>qcW n d) (hasNamesB d):=by
 have hli:=h.Aa.len
 have hlp:=h.Ac.len
 have hL1:Ev (fun n=>qau d n ([]:List ByteArray) 0) (d.Aa.map qd.Am,(d.Aa.length:Int)):=by
  refine loopF (Lf:=qau d) (S:=fun j=>(d.Aa.take j).map qd.Am) (len:=d.Aa.length) (fun n=>?_) (fun j hj X hX=>?_)
  ·simp only [qau,qj (je _),cond_false,List.take_length]
  ·simpa only [qau,qi hj,cond_true,qM hj,jd,qhj hj hli,qeo (g:=qd.Am) hj,wS j] using hX
 have hL2:Ev (fun n=>qay d n ([]:List ByteArray) 0) (d.Ac.map qI.Am,(d.Ac.length:Int)):=by
  refine loopF (Lf:=qay d) (S:=fun j=>(d.Ac.take j).map qI.Am) (len:=d.Ac.length) (fun n=>?_) (fun j hj X hX=>?_)
  ·simp only [qay,qj (je _),cond_false,List.take_length]
  ·simpa only [qay,qi hj,cond_true,qM hj,jd,qhj hj hlp,qeo (g:=qI.Am) hj,wS j] using hX
 unfold qcW hasNamesB
 refine Ev.bind hL1 (Ev.bind hL2 ?_)
 simp only [jF]
 rw [show decide ((d.Aa.length:Int)≤14)=decide (d.Aa.length≤14) from qhF (k:=14),show decide ((d.Af.length:Int)≤30)=decide (d.Af.length≤30) from qhF (k:=30),show decide ((d.Ac.length:Int)≤8)=decide (d.Ac.length≤8) from qhF (k:=8)]
 rw [Bool.and_assoc,Bool.and_assoc]
 exact Ev.andP fun _=>Ev.andP fun _=>Ev.andP fun _=>Ev.and (qfR (qir h.Aa (fun x hx=>hx.Am))) fun _=>Ev.and (qfR h.Af) fun _=>Ev.last (qfR (qir h.Ac (fun x hx=>hx.Am)))
def instB (l:qh) (d:qb) (x:qd):Bool:=inI x.Be 0 ((l.Aj.length:Int)-1)&&(((x.Af.length:Int)==((gt l.Aj x.Be.toNat).Ak.length:Int))&&x.Af.all (netB d))
theorem qle {d:qb} {l:qh} {x:qd} (hn:d.Af.length≤1048576) (hc:l.Aj.length≤1048576) (hx:x.Af.length≤1048576):Ev (fun n=>qb9 n d l x) (instB l d x):=by
 simp only [qb9,qdQ,jd,qcF,qbQ (show l.Aj.length≤9223372036854775807 by omega)]
 unfold instB
 refine Ev.andP fun hI=>?_
 rw [qbp] at hI
 rw [qeK hI.1 (by omega)]
 simp only [jd]
 refine Ev.andP fun _=>Ev.bind (b:=x.Af.any fun y=>!netB d y) ?_ (Ev.now (by rw [qki]))
 unfold qX
 exact Ev.bind (b:=ixL (fun y=>!netB d y) x.Af) (qfU (fin:=(x.Af.length:Int)) (Lf:=qt x.Af d) (pf:=fun n y=>qbI n y d) (fun y _=>⟨0,fun n _=>by simp only [qbI,qmC hn,jd]⟩)
   (fun n=>by simp only [qt,qj (je _),cond_false])
   (fun n j y hx=>by
    have hj:=(List.getElem?_eq_some_iff.1 hx).1
    simp only [qt,qi hj,cond_true,qah hx,jd,wS j])
   (fun n=>by unfold qal;congr 1;funext o;cases o<;>rfl)) (Ev.now (by rw [qiK]))
def portB (d:qb) (p:qI):Bool:=inI p.Bl 1 2&&netB d p.Bm
theorem qqk {x:Int}:inI x 1 2=((x==1) || (x==2)):=by
 unfold inI;rw [ji];simp;omega
def lastN (x:qd):Int:=at0 x.Af (x.Af.length-1)
theorem qmk {x:qd} (h1:1≤x.Af.length) (h2:x.Af.length≤1048576):idx x.Af (W64 ((x.Af.length:Int)-1))=some (lastN x):=by
 rw [qbQ (by omega),show ((x.Af.length:Int)-1)=((x.Af.length-1:Nat):Int) by omega,qbc (by omega)];rfl
theorem qn3 {d:qb} {x:qd} (h1:1≤x.Af.length) (h:x.Af.all (netB d)=true):0≤lastN x∧lastN x<d.Af.length:=by
 rw [qeS (d:=0),qW] at h
 have:=h (x.Af.length-1) (by omega)
 unfold netB at this
 rw [qbp] at this
 unfold lastN at0
 omega
theorem qkl {l:qh} {d:qb} {x:qd} (hl:libB l=true) (h:instB l d x=true):1≤x.Af.length∧0≤lastN x∧lastN x<d.Af.length:=by
 unfold instB at h
 simp only [jg,qbp,beq_iff_eq] at h
 obtain ⟨h1,h2,h3⟩:=h
 unfold libB at hl
 simp only [jg] at hl
 have hc:=hl.1
 rw [qfX,qW] at hc
 have:=qgO (qkV (hc x.Be.toNat (by omega)))
 have h4:1≤x.Af.length:=by omega
 exact ⟨h4,qn3 h4 h3⟩
def drvI (d:qb) (k j:Nat):Nat:=cntP (fun i=>lastN (gt d.Aa i)==(k:Int)) j
def drvP (d:qb) (k j:Nat):Nat:=cntP (fun i=>((gt d.Ac i).Bl==1)&&((gt d.Ac i).Bm==(k:Int))) j
def drvB (d:qb):Bool:=allN (fun k=>((drvI d k d.Aa.length+drvP d k d.Ac.length:Nat):Int)==1) d.Af.length
def designB (l:qh) (d:qb):Bool:=(libB l&&hasNamesB d)&&(d.Aa.all (instB l d)&&(d.Ac.all (portB d)&&drvB d))
theorem qlK {d:qb} {k j:Nat}:drvI d k (j+1)=drvI d k j+(bif lastN (gt d.Aa j)==(k:Int) then 1 else 0):=rfl
theorem qio {d:qb} {k j:Nat}:drvP d k (j+1)=drvP d k j+(bif ((gt d.Ac j).Bl==1)&&((gt d.Ac j).Bm==(k:Int)) then 1 else 0):=rfl
theorem qmF {l:qh} {d:qb} (h:qeL l) (hd:qgt d):Ev (fun n=>qfx n l d) (designB l d):=by
 have hli:=hd.Aa.len
 have hlp:=hd.Ac.len
 have hln:=hd.Af.len
 have hlc:=h.Aj.len
 unfold qfx designB
 refine Ev.guardB (Ev.or (ql7 h) fun _=>Ev.neg (qmr hd)) fun hb=>?_
 rw [jg] at hb
 rw [qip (m:=d.Af.length) (by omega)]
 simp only [jd]
 have hL1:Ev (fun n=>qbH l d n (vecC (fun _=>0) d.Af.length) 0) (bif allN (fun j=>instB l d (gt d.Aa j)) d.Aa.length then .nxt (vecC (fun k=>drvI d k d.Aa.length) d.Af.length,(d.Aa.length:Int)) else .ret false):=by
  refine loopN (Lf:=qbH l d) (S:=fun j=>vecC (fun k=>drvI d k j) d.Af.length) (fun j=>instB l d (gt d.Aa j)) (fun n=>?_) (fun j hj hp X hX=>?_)
  ·simp only [qbH,qj (je _),cond_false]
  ·simp only [qbH,qi hj,cond_true,qM hj,jd,wS j]
   have hxl:=(qgL hd.Aa hj).Af.len
   refine Ev.chk1 (qle hln hlc hxl) fun hi=>?_
   obtain ⟨h1,h2,h3⟩:=qkl hb.1 hi
   have hc:drvI d (lastN (gt d.Aa j)).toNat j≤j:=qdX
   obtain ⟨e1,e2⟩:=qhg (c:=fun k=>drvI d k j) (c':=fun k=>drvI d k (j+1)) h2 h3 (by show drvI _ _ _<_;omega) (fun k _=>qlK)
   simp only [qmk h1 hxl,jd,e1,e2]
   exact hX hi
 have hL2:Ev (fun n=>qa6 d n (vecC (fun k=>drvI d k d.Aa.length) d.Af.length) 0) (bif allN (fun j=>portB d (gt d.Ac j)) d.Ac.length then .nxt (vecC (fun k=>drvI d k d.Aa.length+drvP d k d.Ac.length) d.Af.length,(d.Ac.length:Int)) else .ret false):=by
  refine loopN (Lf:=qa6 d) (S:=fun j=>vecC (fun k=>drvI d k d.Aa.length+drvP d k j) d.Af.length) (fun j=>portB d (gt d.Ac j)) (fun n=>?_) (fun j hj hp X hX=>?_)
  ·simp only [qa6,qj (je _),cond_false]
  ·simp only [qa6,qi hj,cond_true,qM hj,jd,qmC hln,bne,wS j]
   refine Ev.chkT1 ?_ fun hi=>?_
   ·unfold portB
    rw [qqk]
    cases ((gt d.Ac j).Bl==1)<;>cases ((gt d.Ac j).Bl==2)<;>exact .done
   ·have hX:=hX hi
    unfold portB netB at hi
    simp only [jg,qbp] at hi
    have hc1:drvI d (gt d.Ac j).Bm.toNat d.Aa.length≤d.Aa.length:=qdX
    have hc2:drvP d (gt d.Ac j).Bm.toNat j≤j:=qdX
    cases h1:((gt d.Ac j).Bl==1)
    ·have:vecC (fun k=>drvI d k d.Aa.length+drvP d k (j+1)) d.Af.length=vecC (fun k=>drvI d k d.Aa.length+drvP d k j) d.Af.length:=by
      refine qgJ (fun k _=>?_)
      rw [qio,h1];rfl
     rw [this] at hX
     exact hX
    ·obtain ⟨e1,e2⟩:=qhg (c:=fun k=>drvI d k d.Aa.length+drvP d k j) (c':=fun k=>drvI d k d.Aa.length+drvP d k (j+1)) (x:=(gt d.Ac j).Bm) (m:=d.Af.length) hi.2.1 (by omega) (by show drvI _ _ _+drvP _ _ _<_;omega) (fun k _=>by rw [qio,h1,jx];omega)
     simp only [cond_true,jd,e1,e2]
     exact hX
 rw [qfX,qfX]
 refine Ev.bind hL1 ?_
 cases allN (fun j=>instB l d (gt d.Aa j)) d.Aa.length
 ·exact .done
 ·refine Ev.bind hL2 ?_
  cases allN (fun j=>portB d (gt d.Ac j)) d.Ac.length
  ·exact .done
  ·simp only [cond_true,jx]
   unfold qaN
   refine Ev.bind (b:=(vecC (fun k=>drvI d k d.Aa.length+drvP d k d.Ac.length) d.Af.length).any fun x=>!(x==1)) (Ev.bind (b:=ixL (fun x=>!(x==1)) (vecC (fun k=>drvI d k d.Aa.length+drvP d k d.Ac.length) d.Af.length)) (qfU (fin:=(((vecC (fun k=>drvI d k d.Aa.length+drvP d k d.Ac.length) d.Af.length).length:Nat):Int)) (Lf:=qG (vecC (fun k=>drvI d k d.Aa.length+drvP d k d.Ac.length) d.Af.length)) (pf:=fun n y=>qf2 n y) (fun y _=>.done)
    (fun n=>by simp only [qG,qj (je _),cond_false])
    (fun n j y hx=>by
     have hj:=(List.getElem?_eq_some_iff.1 hx).1
     have:j<d.Af.length:=by rw [qh1] at hj;exact hj
     simp only [qG,qi hj,cond_true,qah hx,jd,wS j])
    (fun n=>by unfold qaZ;congr 1;funext o;cases o<;>rfl)) (Ev.now (by rw [qiK]))) (Ev.now ?_)
   rw [qki,qeS (d:=0),qh1]
   unfold drvB
   congr 1
   exact qeN (fun k hk=>by
    have:=qmJ (c:=fun k=>drvI d k d.Aa.length+drvP d k d.Ac.length) hk
    unfold at0 at this
    rw [this])
theorem qmG {l:qh} {d:qb} (h:qeL l) (hd:qgt d):Ev (fun n=>qft n l d) (d.Aa.all (instB l d)&&d.Ac.all (portB d)):=by
 have hli:=hd.Aa.len
 have hlp:=hd.Ac.len
 have hln:=hd.Af.len
 have hlc:=h.Aj.len
 have hL2:∀ x:qd,x.Af.length≤1048576→Ev (fun n=>qcl d x n 0) (bif x.Af.all (netB d) then .nxt (x.Af.length:Int) else .ret false):=fun x hx =>
  qiX (fun n=>by simp only [qcl,qj (je _),cond_false]) (fun j hj X hX=>by
   simp only [qcl,qi hj,cond_true,qgI hj,jd,qlo hln,wS j,qaY]
   exact Ev.okP1 fun _=>hX)
 have hL1:Ev (fun n=>qcq l d n 0) (bif allN (fun j=>instB l d (gt d.Aa j)) d.Aa.length then .nxt (d.Aa.length:Int) else .ret false):=by
  refine qdl ?_ (fun j hj X hX=>Ev.succ ?_)
  ·exact Ev.succ (by simp only [qcq,qj (je _),cond_false];exact .done)
  ·simp only [qcq,qi hj,cond_true,qM hj,jd,qcQ,qbQ (show l.Aj.length≤9223372036854775807 by omega),wS j,bne]
   have hxl:=(qgL hd.Aa hj).Af.len
   unfold instB
   rw [←Bool.and_assoc]
   refine Ev.chkT ?_ fun _=>Ev.bind (hL2 _ hxl) ?_
   ·simp only [qaY]
    refine Ev.orBP fun hI=>?_
    rw [qbp] at hI
    rw [qeK hI.1 (by omega)]
    exact .done
   ·cases (gt d.Aa j).Af.all (netB d)
    ·exact .done
    ·exact hX
 have hL3:Ev (fun n=>qck d n 0) (bif allN (fun j=>portB d (gt d.Ac j)) d.Ac.length then .nxt (d.Ac.length:Int) else .ret false):=by
  refine qdl ?_ (fun j hj X hX=>Ev.succ ?_)
  ·exact Ev.succ (by simp only [qck,qj (je _),cond_false];exact .done)
  ·simp only [qck,qi hj,cond_true,qM hj,jd,qlo hln,wS j]
   simp only [qcQ,jd,qaY]
   unfold portB
   exact Ev.okP fun _=>Ev.okP1 fun _=>hX
 unfold qft
 rw [qfX,qfX]
 refine Ev.bind hL1 ?_
 cases allN (fun j=>instB l d (gt d.Aa j)) d.Aa.length
 ·exact .done
 ·refine Ev.bind hL3 ?_
  cases allN (fun j=>portB d (gt d.Ac j)) d.Ac.length<;>exact .done
theorem qiY {l:qh} {d:qb} (h:qeL l) (hd:qgt d):Ev (fun n=>qeG n l d) (designB l d):=by
 have hli:=hd.Aa.len
 have hlp:=hd.Ac.len
 have hln:=hd.Af.len
 have hlc:=h.Aj.len
 have e:designB l d=((libB l&&(decide (d.Aa.length≤14)&&(decide (d.Af.length≤30)&&(decide (d.Ac.length≤8)&&(d.Aa.all (instB l d)&&d.Ac.all (portB d))))))&&((namesB (d.Aa.map qd.Am)&&(namesB (d.Ac.map qI.Am)&&namesB d.Af))&&drvB d)):=by
  unfold designB hasNamesB
  generalize libB l=a1
  generalize decide (d.Aa.length≤14)=a2
  generalize decide (d.Af.length≤30)=a3
  generalize decide (d.Ac.length≤8)=a4
  generalize d.Aa.all (instB l d)=a5
  generalize d.Ac.all (portB d)=a6
  generalize namesB (d.Aa.map qd.Am)=a7
  generalize namesB (d.Ac.map qI.Am)=a8
  generalize namesB d.Af=a9
  generalize drvB d=a10
  rw [ji]
  simp only [jg]
  constructor
  ·rintro ⟨⟨h1,⟨h2,h3,h4⟩,h7,h9,h8⟩,h5,h6,h10⟩
   exact ⟨⟨h1,h2,h3,h4,h5,h6⟩,⟨h7,h8,h9⟩,h10⟩
  ·rintro ⟨⟨h1,h2,h3,h4,h5,h6⟩,⟨h7,h8,h9⟩,h10⟩
   exact ⟨⟨h1,⟨h2,h3,h4⟩,h7,h9,h8⟩,h5,h6,h10⟩
 rw [e]
 unfold qeG
 refine Ev.guardB ?_ fun hb=>?_
 ·refine Ev.or (qk8 h) fun _=>?_
  rw [show decide ((d.Aa.length:Int) > 14) = !decide (d.Aa.length≤14) by rw [ji];simp;omega,show decide ((d.Af.length:Int) > 30) = !decide (d.Af.length≤30) by rw [ji];simp;omega,show decide ((d.Ac.length:Int) > 8) = !decide (d.Ac.length≤8) by rw [ji];simp;omega]
  simp only [qaY]
  exact Ev.orBP fun _=>Ev.orBP fun _=>Ev.orBP fun _=>Ev.neg (qmG h hd)
 ·simp only [jg] at hb
  obtain ⟨hlib,_,_,_,hI,hP⟩:=hb
  rw [qfX,qW] at hI hP
  have hL1:Ev (fun n=>qbG d n ([]:List ByteArray) 0) (d.Aa.map qd.Am,(d.Aa.length:Int)):=by
   refine loopF (Lf:=qbG d) (S:=fun j=>(d.Aa.take j).map qd.Am) (len:=d.Aa.length) (fun n=>?_) (fun j hj X hX=>?_)
   ·simp only [qbG,qj (je _),cond_false,List.take_length]
   ·simpa only [qbG,qi hj,cond_true,qM hj,jd,qhj hj hli,qeo (g:=qd.Am) hj,wS j] using hX
  have hL2:Ev (fun n=>qbB d n ([]:List ByteArray) 0) (d.Ac.map qI.Am,(d.Ac.length:Int)):=by
   refine loopF (Lf:=qbB d) (S:=fun j=>(d.Ac.take j).map qI.Am) (len:=d.Ac.length) (fun n=>?_) (fun j hj X hX=>?_)
   ·simp only [qbB,qj (je _),cond_false,List.take_length]
   ·simpa only [qbB,qi hj,cond_true,qM hj,jd,qhj hj hlp,qeo (g:=qI.Am) hj,wS j] using hX
  have hL3:Ev (fun n=>qbD d n (vecC (fun _=>0) d.Af.length) 0) (vecC (fun k=>drvI d k d.Aa.length) d.Af.length,(d.Aa.length:Int)):=by
   refine loopF (Lf:=qbD d) (S:=fun j=>vecC (fun k=>drvI d k j) d.Af.length) (len:=d.Aa.length) (fun n=>?_) (fun j hj X hX=>?_)
   ·simp only [qbD,qj (je _),cond_false]
   ·have hxl:=(qgL hd.Aa hj).Af.len
    obtain ⟨h1,h2,h3⟩:=qkl hlib (hI j hj)
    have hc:drvI d (lastN (gt d.Aa j)).toNat j≤j:=qdX
    obtain ⟨e1,e2⟩:=qhg (c:=fun k=>drvI d k j) (c':=fun k=>drvI d k (j+1)) h2 h3 (by show drvI _ _ _<_;omega) (fun k _=>qlK)
    simpa only [qbD,qi hj,cond_true,qM hj,jd,wS j,qmk h1 hxl,e1,e2] using hX
  have hL4:Ev (fun n=>qbb d n (vecC (fun k=>drvI d k d.Aa.length) d.Af.length) 0) (vecC (fun k=>drvI d k d.Aa.length+drvP d k d.Ac.length) d.Af.length,(d.Ac.length:Int)):=by
   refine loopF (Lf:=qbb d) (S:=fun j=>vecC (fun k=>drvI d k d.Aa.length+drvP d k j) d.Af.length) (len:=d.Ac.length) (fun n=>?_) (fun j hj X hX=>?_)
   ·simp only [qbb,qj (je _),cond_false]
   ·have hi:=hP j hj
    unfold portB netB at hi
    simp only [jg,qbp] at hi
    have hc1:drvI d (gt d.Ac j).Bm.toNat d.Aa.length≤d.Aa.length:=qdX
    have hc2:drvP d (gt d.Ac j).Bm.toNat j≤j:=qdX
    simp only [qbb,qi hj,cond_true,qM hj,jd,wS j]
    cases h1:((gt d.Ac j).Bl==1)
    ·have:vecC (fun k=>drvI d k d.Aa.length+drvP d k (j+1)) d.Af.length=vecC (fun k=>drvI d k d.Aa.length+drvP d k j) d.Af.length:=by
      refine qgJ (fun k _=>?_)
      rw [qio,h1];rfl
     rw [this] at hX
     exact hX
    ·obtain ⟨e1,e2⟩:=qhg (c:=fun k=>drvI d k d.Aa.length+drvP d k j) (c':=fun k=>drvI d k d.Aa.length+drvP d k (j+1)) (x:=(gt d.Ac j).Bm) (m:=d.Af.length) hi.2.1 (by omega) (by show drvI _ _ _+drvP _ _ _<_;omega) (fun k _=>by rw [qio,h1,jx];omega)
     simp only [cond_true,jd,e1,e2]
     exact hX
  have hL5:Ev (fun n=>qci (vecC (fun _=>0) d.Af.length) (vecC (fun k=>drvI d k d.Aa.length+drvP d k d.Ac.length) d.Af.length) n 0) (bif drvB d then .nxt (d.Af.length:Int) else .ret false):=by
   refine qdl ?_ (fun j hj X hX=>Ev.succ ?_)
   ·exact Ev.succ (by simp only [qci,qh1,qj (je _),cond_false];exact .done)
   ·simp only [qci,qh1,qi hj,cond_true,qgE hj,jd,bne,qaY,wS j]
    exact Ev.okP1 fun _=>hX
  refine Ev.bind hL1 (Ev.bind hL2 ?_)
  refine Ev.guardB (Ev.or (qik (qir hd.Aa (fun x hx=>hx.Am))) fun _=>Ev.or (qik (qir hd.Ac (fun x hx=>hx.Am))) fun _=>Ev.neg (qik hd.Af)) fun _=>?_
  rw [qip (m:=d.Af.length) (by omega)]
  simp only [jd]
  refine Ev.bind hL3 (Ev.bind hL4 (Ev.bind hL5 ?_))
  cases drvB d<;>exact .done
end Go.Fw


namespace Go.Fw
open Go
set_option maxRecDepth 100000
theorem qpQ {m k:Nat}:decide ((m:Int)<(k:Int)) = !decide (k≤m):=by rw [ji];simp
theorem qnt {m k:Nat}:decide ((m:Int) > (k:Int)) = !decide (m≤k):=by rw [ji];simp
def treeB (w:qD) (j:Nat):Bool:=bif decide (j=0) then (at0 w.Ai j==-1)&&(at0 w.Bn j==0) else inI (at0 w.Ai j) 0 ((j:Int)-1)
def wireB (w:qD) (s:Int):Bool :=
 lenB w.Ai 1 8&&(((w.Bn.length:Int)==(w.Ai.length:Int))&&(((w.Bj.length:Int)==(w.Ai.length:Int))&&(allN (treeB w) w.Ai.length &&
  ((w.Bn.all fun x=>inI x 0 1000)&&((w.Bj.all fun x=>inI x 0 500)&&(((w.Bc.length:Int)==s)&&(w.Bc.all fun x=>inI x 0 ((w.Ai.length:Int)-1))))))))
theorem qoc {w:qD} (hl:w.Ai.length≤1048576) (hr:((w.Bn.length:Int)==(w.Ai.length:Int))=true):Ev (fun n=>qec n w) (allN (treeB w) w.Ai.length):=by
 rw [beq_iff_eq] at hr
 have hL:Ev (fun n=>qat w n 0) (bif allN (treeB w) w.Ai.length then .nxt (w.Ai.length:Int) else .ret false):=by
  refine qdl ?_ (fun j hj X hX=>Ev.succ ?_)
  ·exact Ev.succ (by simp only [qat,qj (je _),cond_false];exact .done)
  ·simp only [qat,qi hj,cond_true,qbc hj,jd,qcF,wS j,bne,qaY]
   unfold treeB
   by_cases h0:j=0
   ·subst h0
    rw [show idx w.Bn (0:Int)=some (at0 w.Bn 0) from qbc (j:=0) (by omega)]
    simp only [jd]
    refine Ev.tt (by simp) (Ev.okP fun _=>Ev.okP1 fun _=>Ev.ff (by simp) hX)
   ·have e1:decide (j=0)=false:=by simp;omega
    have e2:((j:Int)==0)=false:=by simp;omega
    have e3:decide ((j:Int) > 0)=true:=by simp;omega
    rw [e1,e2,e3,qbQ (show j≤9223372036854775807 by omega)]
    simp only [cond_false,cond_true]
    exact Ev.okP1 fun _=>hX
 unfold qec
 refine Ev.bind hL ?_
 cases allN (treeB w) w.Ai.length<;>exact .done
theorem qny {w:qD} {s:Int} (h:qi6 w):Ev (fun n=>qg4 n w s) (wireB w s):=by
 have hl:=h.Ai.len
 simp only [qg4,qaA,jd,qcF,qbQ (show w.Ai.length≤9223372036854775807 by omega)]
 unfold wireB
 rw [show inI (w.Ai.length:Int) 1 8=lenB w.Ai 1 8 from qlN (lo:=1) (hi:=8)]
 exact Ev.andP fun _=>Ev.andP fun hr=>Ev.andP fun _=>Ev.and (qoc hl hr) fun _=>Ev.and (qdo h.Bn.len) fun _=>Ev.and (qdo h.Bj.len) fun _=>Ev.andP fun _=>Ev.last (qdo h.Bc.len)
theorem qmU {w:qD} {s:Int} (h:qi6 w):Ev (fun n=>qgU n w s) (wireB w s):=by
 have hl:=h.Ai.len
 have hsl:=h.Bc.len
 have e:wireB w s=((decide (1≤w.Ai.length)&&(decide (w.Ai.length≤8)&&(((w.Bn.length:Int)==(w.Ai.length:Int))&&(((w.Bj.length:Int)==(w.Ai.length:Int))&&((w.Bc.length:Int)==s)))))&&(allN (fun j=>(inI (at0 w.Bj j) 0 500&&inI (at0 w.Bn j) 0 1000)&&treeB w j) w.Ai.length&&(w.Bc.all fun x=>inI x 0 ((w.Ai.length:Int)-1)))):=by
  unfold wireB lenB
  cases h1:((w.Bn.length:Int)==(w.Ai.length:Int))
  ·simp
  ·cases h2:((w.Bj.length:Int)==(w.Ai.length:Int))
   ·simp
   ·rw [beq_iff_eq] at h1 h2
    rw [qhm,qhm]
    rw [qeS (p:=fun x=>inI x 0 1000) (d:=0),qeS (p:=fun x=>inI x 0 500) (d:=0),show w.Bn.length=w.Ai.length by omega,show w.Bj.length=w.Ai.length by omega]
    show _=(_&&((allN (fun j=>inI (w.Bj.getD j 0) 0 500) _&&allN (fun j=>inI (w.Bn.getD j 0) 0 1000) _&&_)&&_))
    generalize allN (fun j=>inI (w.Bj.getD j 0) 0 500) w.Ai.length=a1
    generalize allN (fun j=>inI (w.Bn.getD j 0) 0 1000) w.Ai.length=a2
    generalize allN (fun j=>treeB w j) w.Ai.length=a3
    generalize ((w.Bc.length:Int)==s)=a4
    generalize decide (1≤w.Ai.length)=a5
    generalize decide (w.Ai.length≤8)=a6
    generalize (w.Bc.all fun x=>inI x 0 ((w.Ai.length:Int)-1))=a7
    cases a1<;>cases a2<;>cases a3<;>cases a4<;>cases a5<;>cases a6<;>rfl
 rw [e]
 unfold qgU
 refine Ev.guardB ?_ fun hb=>?_
 ·rw [show decide ((w.Ai.length:Int)<1) = !decide (1≤w.Ai.length) from qpQ (k:=1),show decide ((w.Ai.length:Int) > 8) = !decide (w.Ai.length≤8) from qnt (k:=8)]
  simp only [bne,qaY]
  exact Ev.orBP fun _=>Ev.orBP fun _=>Ev.orBP fun _=>Ev.orBP fun _=>.done
 ·simp only [jg,beq_iff_eq] at hb
  have hL1:Ev (fun n=>qbn w n 0) (bif allN (fun j=>(inI (at0 w.Bj j) 0 500&&inI (at0 w.Bn j) 0 1000)&&treeB w j) w.Ai.length then .nxt (w.Ai.length:Int) else .ret false):=by
   refine qdl ?_ (fun j hj X hX=>Ev.succ ?_)
   ·exact Ev.succ (by simp only [qbn,qj (je _),cond_false];exact .done)
   ·simp only [qbn,qi hj,cond_true,qbc hj,qbc (show j<w.Bj.length by omega),qbc (show j<w.Bn.length by omega),jd,qcQ,wS j,bne,qaY]
    refine Ev.chkT (Ev.orBP fun _=>.done) fun _=>?_
    unfold treeB
    by_cases h0:j=0
    ·subst h0
     refine Ev.tt (by simp) (Ev.okP fun _=>Ev.okP1 fun _=>Ev.ff (by simp) hX)
    ·have e1:decide (j=0)=false:=by simp;omega
     have e2:((j:Int)==0)=false:=by simp;omega
     have e3:decide ((j:Int) > 0)=true:=by simp;omega
     rw [e1,e2,e3,qbQ (show j≤9223372036854775807 by omega)]
     simp only [cond_false,cond_true]
     exact Ev.okP1 fun _=>hX
  have hL2:Ev (fun n=>qc9 w n 0) (bif (w.Bc.all fun x=>inI x 0 ((w.Ai.length:Int)-1)) then .nxt (w.Bc.length:Int) else .ret false) :=
   qiX (fun n=>by simp only [qc9,qj (je _),cond_false]) (fun j hj X hX=>by
    simp only [qc9,qi hj,cond_true,qgI hj,jd,qcQ,qbQ (show w.Ai.length≤9223372036854775807 by omega),wS j,qaY]
    exact Ev.okP1 fun _=>hX)
  refine Ev.bind hL1 ?_
  cases allN (fun j=>(inI (at0 w.Bj j) 0 500&&inI (at0 w.Bn j) 0 1000)&&treeB w j) w.Ai.length
  ·exact .done
  ·refine Ev.bind hL2 ?_
   cases (w.Bc.all fun x=>inI x 0 ((w.Ai.length:Int)-1))<;>exact .done
instance:Inhabited Tplace:=⟨⟨0,0,0,false⟩⟩
instance:Inhabited Tl05Place:=⟨⟨0,0,0,false⟩⟩
def toSp (p:Tplace):Tl05Place:=⟨p.instance_,p.pin,p.net,p.drives⟩
def plX (i:Nat) (x:qd) (j:Nat):List Tplace:=(List.range j).map fun (k:Nat)=>⟨(i:Int),(k:Int),at0 x.Af k,decide (k+1=x.Af.length)⟩
def plI (d:qb) (j:Nat):List Tplace:=(List.range j).flatMap fun (i:Nat)=>plX i (gt d.Aa i) (gt d.Aa i).Af.length
def plP (d:qb) (j:Nat):List Tplace:=(List.range j).map fun (i:Nat)=>⟨-1,(i:Int),(gt d.Ac i).Bm,(gt d.Ac i).Bl==1⟩
def places (d:qb):List Tplace:=plI d d.Aa.length++plP d d.Ac.length
theorem qms {i:Nat} {x:qd} {j:Nat}:plX i x (j+1)=plX i x j++[⟨(i:Int),(j:Int),at0 x.Af j,decide (j+1=x.Af.length)⟩]:=by
 unfold plX;rw [List.range_succ,List.map_append];rfl
theorem qia {d:qb} {j:Nat}:plI d (j+1)=plI d j++plX j (gt d.Aa j) (gt d.Aa j).Af.length:=by
 unfold plI;rw [List.range_succ,List.flatMap_append];simp
theorem qmg {d:qb} {j:Nat}:plP d (j+1)=plP d j++[⟨-1,(j:Int),(gt d.Ac j).Bm,(gt d.Ac j).Bl==1⟩]:=by
 unfold plP;rw [List.range_succ,List.map_append];rfl
theorem qkh {i:Nat} {x:qd} {j:Nat}:(plX i x j).length=j:=by simp [plX]
theorem qkd {d:qb} {j:Nat}:(plP d j).length=j:=by simp [plP]
structure smallD (d:qb):Prop where
 ni:d.Aa.length≤14
 nn:d.Af.length≤30
 np:d.Ac.length≤8
 nx:∀ i,i<d.Aa.length→2≤(gt d.Aa i).Af.length∧(gt d.Aa i).Af.length≤5
theorem qbJ {l:qh} {d:qb} (h:designB l d=true):smallD d:=by
 unfold designB hasNamesB libB at h
 simp only [jg,decide_eq_true_eq] at h
 obtain ⟨⟨⟨hc,_⟩,⟨h1,h2,h3⟩,_⟩,hI,_⟩:=h
 refine ⟨h1,h2,h3,fun i hi=>?_⟩
 rw [qfX,qW] at hI hc
 have:=hI i hi
 unfold instB at this
 simp only [jg,qbp,beq_iff_eq] at this
 have h5:=qgO (qkV (hc (gt d.Aa i).Be.toNat (by omega)))
 omega
theorem qi5 {d:qb} (h:smallD d) {j:Nat} (hj:j≤d.Aa.length):(plI d j).length≤5*j:=by
 induction j with
 | zero=>exact je _
 | succ j ih =>
  rw [qia,jl,qkh]
  have:=ih (by omega)
  have:=h.nx j (by omega)
  omega
theorem qdu {d:qb} (h:smallD d):(places d).length≤78:=by
 unfold places
 rw [jl,qkd]
 have:=qi5 h (je _)
 have:=h.ni
 have:=h.np
 omega
theorem qin {d:qb} (h:smallD d):Ev (fun n=>qa3 n d) (places d):=by
 have h1:=h.ni
 have h2:=h.np
 have hL2:∀ i,i<d.Aa.length→∀ pre:List Tplace,pre.length≤100→Ev (fun n=>qaJ (i:Int) (gt d.Aa i) n pre 0) (pre++plX i (gt d.Aa i) (gt d.Aa i).Af.length,((gt d.Aa i).Af.length:Int)):=by
  intro i hi pre hp
  have h5:=h.nx i hi
  have:=loopF (Lf:=qaJ (i:Int) (gt d.Aa i)) (S:=fun j=>pre++plX i (gt d.Aa i) j) (len:=(gt d.Aa i).Af.length) (fin:=(pre++plX i (gt d.Aa i) (gt d.Aa i).Af.length,((gt d.Aa i).Af.length:Int))) (fun n=>by
    simp only [qaJ,qj (je _),cond_false])
   (fun j hj X hX=>by
    have hc:(pre++plX i (gt d.Aa i) j).length+[(⟨(i:Int),(j:Int),at0 (gt d.Aa i).Af j,decide (j+1=(gt d.Aa i).Af.length)⟩:Tplace)].length≤2147483648:=by
     rw [jl,qkh];simp;omega
    simp only [qaJ,qi hj,cond_true,qbc hj,jd,lastE hj (show (gt d.Aa i).Af.length≤1048576 by omega),qdn hc,jG,←qms,wS j]
    exact hX)
  simpa [plX] using this
 have hL1:Ev (fun n=>qaK d n ([]:List Tplace) 0) (plI d d.Aa.length,(d.Aa.length:Int)):=by
  refine loopF (Lf:=qaK d) (S:=fun j=>plI d j) (len:=d.Aa.length) (fun n=>?_) (fun j hj X hX=>?_)
  ·simp only [qaK,qj (je _),cond_false]
  ·simp only [qaK,qi hj,cond_true,qM hj,jd,wS j]
   refine Ev.bind (hL2 j hj _ (by have:=qi5 h (Nat.le_of_lt hj);omega)) ?_
   rw [←qia]
   exact hX
 have hL3:Ev (fun n=>qaM d n (plI d d.Aa.length) 0) (places d,(d.Ac.length:Int)):=by
  have:=loopF (Lf:=qaM d) (S:=fun j=>plI d d.Aa.length++plP d j) (len:=d.Ac.length) (fin:=(places d,(d.Ac.length:Int))) (fun n=>by
    simp only [qaM,qj (je _),cond_false];rfl)
   (fun j hj X hX=>by
    have hc:(plI d d.Aa.length++plP d j).length+[(⟨-1,(j:Int),(gt d.Ac j).Bm,(gt d.Ac j).Bl==1⟩:Tplace)].length≤2147483648:=by
     rw [jl,qkd];have:=qi5 h (je _);simp;omega
    simp only [qaM,qi hj,cond_true,qM hj,jd,qdn hc,jG,←qmg,wS j]
    exact hX)
  simpa [plP] using this
 unfold qa3
 exact Ev.bind hL1 (Ev.bind hL3 .done)
theorem qiI {d:qb} (h:smallD d):Ev (fun n=>qc8 n d) ((places d).map toSp):=by
 have h1:=h.ni
 have h2:=h.np
 have hL2:∀ i,i<d.Aa.length→∀ pre:List Tplace,pre.length≤100→Ev (fun n=>qbm (i:Int) (gt d.Aa i) n (pre.map toSp) 0) ((pre++plX i (gt d.Aa i) (gt d.Aa i).Af.length).map toSp,((gt d.Aa i).Af.length:Int)):=by
  intro i hi pre hp
  have h5:=h.nx i hi
  have:=loopF (Lf:=qbm (i:Int) (gt d.Aa i)) (S:=fun j=>(pre++plX i (gt d.Aa i) j).map toSp) (len:=(gt d.Aa i).Af.length) (fin:=((pre++plX i (gt d.Aa i) (gt d.Aa i).Af.length).map toSp,((gt d.Aa i).Af.length:Int))) (fun n=>by
    simp only [qbm,qj (je _),cond_false])
   (fun j hj X hX=>by
    have hc:((pre++plX i (gt d.Aa i) j).map toSp).length+[(⟨(i:Int),(j:Int),at0 (gt d.Aa i).Af j,decide (j+1=(gt d.Aa i).Af.length)⟩:Tl05Place)].length≤2147483648:=by
     rw [jF,jl,qkh];simp;omega
    simp only [qbm,qi hj,cond_true,qbc hj,jd,lastE hj (show (gt d.Aa i).Af.length≤1048576 by omega),qdn hc,wS j]
    rw [qms,←jG,List.map_append] at hX
    exact hX)
  simpa [plX] using this
 have hL1:Ev (fun n=>qbf d n ([]:List Tl05Place) 0) ((plI d d.Aa.length).map toSp,(d.Aa.length:Int)):=by
  refine loopF (Lf:=qbf d) (S:=fun j=>(plI d j).map toSp) (len:=d.Aa.length) (fun n=>?_) (fun j hj X hX=>?_)
  ·simp only [qbf,qj (je _),cond_false]
  ·simp only [qbf,qi hj,cond_true,qM hj,jd,wS j]
   refine Ev.bind (hL2 j hj _ (by have:=qi5 h (Nat.le_of_lt hj);omega)) ?_
   rw [←qia]
   exact hX
 have hL3:Ev (fun n=>qbd d n ((plI d d.Aa.length).map toSp) 0) ((places d).map toSp,(d.Ac.length:Int)):=by
  have:=loopF (Lf:=qbd d) (S:=fun j=>(plI d d.Aa.length++plP d j).map toSp) (len:=d.Ac.length) (fin:=((places d).map toSp,(d.Ac.length:Int))) (fun n=>by
    simp only [qbd,qj (je _),cond_false];rfl)
   (fun j hj X hX=>by
    have hc:((plI d d.Aa.length++plP d j).map toSp).length+[(⟨-1,(j:Int),(gt d.Ac j).Bm,(gt d.Ac j).Bl==1⟩:Tl05Place)].length≤2147483648:=by
     rw [jF,jl,qkd];have:=qi5 h (je _);simp;omega
    simp only [qbd,qi hj,cond_true,qM hj,jd,qdn hc,wS j]
    rw [qmg,←jG,List.map_append] at hX
    exact hX)
  simpa [plP] using this
 unfold qc8
 exact Ev.bind hL1 (Ev.bind hL3 .done)
def snkQ (d:qb) (k:Int) (i:Nat):Bool:=((gt (places d) i).net==k)&&!(gt (places d) i).drives
def sinksL (d:qb) (k:Int) (j:Nat):List Int:=((List.range j).filter (snkQ d k)).map fun (i:Nat)=>(i:Int)
def snkN (d:qb) (k:Int):Nat:=cntP (snkQ d k) (places d).length
theorem qhZ {d:qb} {k:Int} {j:Nat}:sinksL d k (j+1)=sinksL d k j++(bif snkQ d k j then [(j:Int)] else []):=by
 unfold sinksL
 rw [List.range_succ,List.filter_append,List.map_append]
 congr 1
 cases h:snkQ d k j<;>simp [h]
theorem qfn {d:qb} {k:Int} {j:Nat}:(sinksL d k j).length=cntP (snkQ d k) j:=by
 induction j with
 | zero=>rfl
 | succ j ih =>
  rw [qhZ,jl,ih]
  show _=cntP (snkQ d k) j+_
  congr 1
  cases snkQ d k j<;>rfl
theorem qom {α β:Type} [Inhabited α] [Inhabited β] {xs:List α} {g:α→β} {j:Nat} (h:j<xs.length):gt (xs.map g) j=g (gt xs j):=by
 rw [qiE (by simpa using h),qiE h];simp
theorem qmq {d:qb} {k:Int} (h:smallD d):Ev (fun n=>qfD n d k) (sinksL d k (places d).length):=by
 have hl:=qdu h
 have hL:Ev (fun n=>qa7 k ((places d).map toSp) n ([]:List Int) 0) (sinksL d k (places d).length,((places d).length:Int)):=by
  refine loopF (Lf:=qa7 k ((places d).map toSp)) (S:=fun j=>sinksL d k j) (len:=(places d).length) (fun n=>?_) (fun j hj X hX=>?_)
  ·simp only [qa7,jF,qj (je _),cond_false]
  ·have hj':j<((places d).map toSp).length:=by simpa using hj
   have hc:(sinksL d k j).length+[(j:Int)].length≤2147483648:=by
    rw [qfn]
    have:cntP (snkQ d k) j≤j:=qdX
    simp;omega
   simp only [qa7,qi hj',cond_true,qM hj',qom hj,jd,wS j]
   rw [show ∀ p:Tplace,(toSp p).net=p.net from fun _=>rfl,show ∀ p:Tplace,(toSp p).drives=p.drives from fun _=>rfl]
   refine Ev.bind (b:=snkQ d k j) (Ev.andP fun _=>.done) ?_
   rw [qhZ] at hX
   cases hq:snkQ d k j
   ·rw [hq] at hX
    simp only [cond_false,List.append_nil] at hX ⊢
    exact hX
   ·rw [hq] at hX
    simp only [cond_true,qdn hc,jd] at hX ⊢
    exact hX
 unfold qfD
 exact Ev.bind (qiI h) (Ev.bind hL .done)
theorem qkH {l:qh} {d:qb} (h:designB l d=true) {i:Nat} (hi:i<(places d).length):0≤(gt (places d) i).net∧(gt (places d) i).net<d.Af.length:=by
 unfold designB at h
 simp only [jg] at h
 obtain ⟨_,hI,hP,_⟩:=h
 rw [qfX,qW] at hI hP
 have hm:gt (places d) i ∈ places d:=by rw [qiE hi];exact jt hi
 generalize gt (places d) i=p at hm
 unfold places at hm
 rcases List.mem_append.1 hm with hm|hm
 ·unfold plI at hm
  obtain ⟨i,hi,hm⟩:=List.mem_flatMap.1 hm
  unfold plX at hm
  obtain ⟨k,hk,rfl⟩:=List.mem_map.1 hm
  have:=hI i (List.mem_range.1 hi)
  unfold instB at this
  simp only [jg] at this
  have h3:=this.2.2
  rw [qeS (d:=0),qW] at h3
  have h4:=h3 k (List.mem_range.1 hk)
  unfold netB at h4
  rw [qbp] at h4
  show 0≤at0 _ _∧at0 _ _<_
  unfold at0
  omega
 ·unfold plP at hm
  obtain ⟨i,hi,rfl⟩:=List.mem_map.1 hm
  have:=hP i (List.mem_range.1 hi)
  unfold portB netB at this
  simp only [jg,qbp] at this
  show 0≤(gt d.Ac i).Bm∧(gt d.Ac i).Bm<_
  omega
def blockB (b:qm):Bool:=(designB b.Aq b.Ab&&((b.Ah.length:Int)==(b.Ab.Af.length:Int)))&&allN (fun j=>wireB (gt b.Ah j) (snkN b.Ab (j:Int))) b.Ah.length
theorem qnk {b:qm} (h:qb3 b):Ev (fun n=>qge n b) (blockB b):=by
 have hwl:=h.Ah.len
 unfold qge blockB
 refine Ev.guardB (Ev.or (qmF h.Aq h.Ab) fun _=>.done) fun hb=>?_
 rw [jg,beq_iff_eq] at hb
 obtain ⟨hd,hw⟩:=hb
 have hs:=qbJ hd
 have hl:=qdu hs
 have hn:=hs.nn
 rw [qip (m:=b.Ah.length) (by omega)]
 simp only [jd]
 have hL1:Ev (fun n=>qbx (places b.Ab) n (vecC (fun _=>0) b.Ah.length) 0) (vecC (fun k=>snkN b.Ab (k:Int)) b.Ah.length,((places b.Ab).length:Int)):=by
  refine loopF (Lf:=qbx (places b.Ab)) (S:=fun j=>vecC (fun k=>cntP (snkQ b.Ab (k:Int)) j) b.Ah.length) (len:=(places b.Ab).length) (fun n=>?_) (fun j hj X hX=>?_)
  ·simp only [qbx,qj (je _),cond_false];rfl
  ·simp only [qbx,qi hj,cond_true,qM hj,jd,wS j]
   obtain ⟨n0,n1⟩:=qkH hd hj
   cases h1:(gt (places b.Ab) j).drives
   ·have hc:cntP (snkQ b.Ab (((gt (places b.Ab) j).net.toNat:Nat):Int)) j≤j:=qdX
    obtain ⟨e1,e2⟩:=qhg (c:=fun k=>cntP (snkQ b.Ab (k:Int)) j) (c':=fun k=>cntP (snkQ b.Ab (k:Int)) (j+1)) (x:=(gt (places b.Ab) j).net) (m:=b.Ah.length) n0 (by omega) (by show cntP _ _<_;omega) (fun k _=>by
     show cntP _ j+(bif snkQ b.Ab (k:Int) j then 1 else 0)=_
     unfold snkQ
     rw [h1,Bool.not_false,Bool.and_true])
    simp only [Bool.not_false,cond_true,jd,e1,e2]
    exact hX
   ·have:vecC (fun k=>cntP (snkQ b.Ab (k:Int)) (j+1)) b.Ah.length=vecC (fun k=>cntP (snkQ b.Ab (k:Int)) j) b.Ah.length:=by
     refine qgJ (fun k _=>?_)
     show cntP _ j+(bif snkQ b.Ab (k:Int) j then 1 else 0)=_
     unfold snkQ
     rw [h1,jI,Bool.and_false];rfl
    rw [this] at hX
    exact hX
 have hL2:Ev (fun n=>qcK b (vecC (fun k=>snkN b.Ab (k:Int)) b.Ah.length) n 0) (bif allN (fun j=>wireB (gt b.Ah j) (snkN b.Ab (j:Int))) b.Ah.length then .nxt (b.Ah.length:Int) else .ret false):=by
  refine qdl ?_ (fun j hj X hX=>Ev.succ ?_)
  ·exact Ev.succ (by simp only [qcK,qj (je _),cond_false];exact .done)
  ·simp only [qcK,qi hj,cond_true,qM hj,qgE hj,jd,wS j]
   exact Ev.chk1 (qny (qgL h.Ah hj)) fun _=>hX
 refine Ev.bind (qin hs) (Ev.bind hL1 (Ev.bind hL2 ?_))
 cases allN (fun j=>wireB (gt b.Ah j) (snkN b.Ab (j:Int))) b.Ah.length<;>exact .done
theorem qmy {b:qm} (h:qb3 b):Ev (fun n=>qgc n b) (blockB b):=by
 have hwl:=h.Ah.len
 unfold qgc blockB
 refine Ev.guardB (Ev.or (qiY h.Aq h.Ab) fun _=>.done) fun hb=>?_
 rw [jg] at hb
 have hs:=qbJ hb.1
 have hL:Ev (fun n=>qcM b n 0) (bif allN (fun j=>wireB (gt b.Ah j) (snkN b.Ab (j:Int))) b.Ah.length then .nxt (b.Ah.length:Int) else .ret false):=by
  refine qdl ?_ (fun j hj X hX=>Ev.succ ?_)
  ·exact Ev.succ (by simp only [qcM,qj (je _),cond_false];exact .done)
  ·simp only [qcM,qi hj,cond_true,qM hj,jd,wS j]
   refine Ev.bind (qmq hs) ?_
   rw [qfn]
   exact Ev.chk1 (qmU (qgL h.Ah hj)) fun _=>hX
 refine Ev.bind hL ?_
 cases allN (fun j=>wireB (gt b.Ah j) (snkN b.Ab (j:Int))) b.Ah.length<;>exact .done
end Go.Fw


namespace Go.Fw
open Go
set_option maxRecDepth 100000
def off (d:qb) (i:Nat):Nat:=(plI d i).length
def place1 (d:qb) (i k:Nat):Tplace:=⟨(i:Int),(k:Int),at0 (gt d.Aa i).Af k,decide (k+1=(gt d.Aa i).Af.length)⟩
def place2 (d:qb) (i:Nat):Tplace:=⟨-1,(i:Int),(gt d.Ac i).Bm,(gt d.Ac i).Bl==1⟩
theorem qkU {d:qb} {i:Nat}:off d (i+1)=off d i+(gt d.Aa i).Af.length:=by
 unfold off;rw [qia,jl,qkh]
theorem qib {d:qb}:(places d).length=off d d.Aa.length+d.Ac.length:=by
 unfold places off;rw [jl,qkd]
theorem qqn {d:qb} {n i k:Nat} (hi:i<n) (hk:k<(gt d.Aa i).Af.length):off d i+k<off d n∧gt (plI d n) (off d i+k)=place1 d i k:=by
 induction n with
 | zero=>omega
 | succ n ih =>
  rw [qia,qjt]
  rcases Nat.lt_succ_iff_lt_or_eq.1 hi with h|rfl
  ·obtain ⟨h1,h2⟩:=ih h
   refine ⟨by rw [qkU];omega,?_⟩
   rw [if_pos (show off d i+k<(plI d n).length from h1),h2]
  ·refine ⟨by rw [qkU];omega,?_⟩
   rw [if_neg (by unfold off;omega),show off d i+k-(plI d i).length=k by unfold off;omega]
   exact qmj hk
theorem qnN {d:qb} {i k:Nat} (hi:i<d.Aa.length) (hk:k<(gt d.Aa i).Af.length):off d i+k<(places d).length∧gt (places d) (off d i+k)=place1 d i k:=by
 obtain ⟨h1,h2⟩:=qqn hi hk
 refine ⟨by rw [qib];omega,?_⟩
 unfold places
 rw [qjt,if_pos (show off d i+k<(plI d d.Aa.length).length from h1),h2]
theorem qob {d:qb} {i:Nat} (hi:i<d.Ac.length):off d d.Aa.length+i<(places d).length∧gt (places d) (off d d.Aa.length+i)=place2 d i:=by
 refine ⟨by rw [qib];omega,?_⟩
 unfold places
 rw [qjt,if_neg (by unfold off;omega),show off d d.Aa.length+i-(plI d d.Aa.length).length=i by unfold off;omega]
 exact qmj hi
theorem qnC {d:qb} {n j:Nat} (hj:j<off d n):∃ i k,i<n∧k<(gt d.Aa i).Af.length∧j=off d i+k:=by
 induction n with
 | zero=>exact absurd hj (Nat.not_lt_zero _)
 | succ n ih =>
  by_cases h:j<off d n
  ·obtain ⟨i,k,h1,h2,h3⟩:=ih h
   exact ⟨i,k,by omega,h2,h3⟩
  ·rw [qkU] at hj
   exact ⟨n,j-off d n,by omega,by omega,by omega⟩
theorem qjL {d:qb} {j:Nat} (hj:j<(places d).length) :
  (∃ i k,i<d.Aa.length∧k<(gt d.Aa i).Af.length∧j=off d i+k∧gt (places d) j=place1 d i k) ∨
  (∃ i,i<d.Ac.length∧j=off d d.Aa.length+i∧gt (places d) j=place2 d i):=by
 rw [qib] at hj
 by_cases h:j<off d d.Aa.length
 ·obtain ⟨i,k,h1,h2,rfl⟩:=qnC h
  exact .inl ⟨i,k,h1,h2,rfl,(qnN h1 h2).2⟩
 ·refine .inr ⟨j-off d d.Aa.length,by omega,by omega,?_⟩
  have:=(qob (d:=d) (i:=j-off d d.Aa.length) (by omega)).2
  rwa [show off d d.Aa.length+(j-off d d.Aa.length)=j by omega] at this
def cellAt (b:qm) (i:Int):qn:=gt b.Aq.Aj (gt b.Ab.Aa i.toNat).Be.toNat
theorem qjn {l:qh} {d:qb} (h:designB l d=true) {i:Nat} (hi:i<d.Aa.length) :
  (0≤(gt d.Aa i).Be∧(gt d.Aa i).Be<l.Aj.length)∧(gt d.Aa i).Af.length=(gt l.Aj (gt d.Aa i).Be.toNat).Ak.length∧cellB (gt l.Aj (gt d.Aa i).Be.toNat)=true:=by
 unfold designB libB at h
 simp only [jg] at h
 obtain ⟨⟨⟨hc,_⟩,_⟩,hI,_⟩:=h
 rw [qfX,qW] at hI hc
 have:=hI i hi
 unfold instB at this
 simp only [jg,qbp,beq_iff_eq] at this
 exact ⟨⟨this.1.1,by omega⟩,by omega,hc _ (by omega)⟩
theorem qmN {c:qn} (h:cellB c=true):c.Ar.length≤8:=by
 unfold cellB at h
 simp only [jg,decide_eq_true_eq] at h
 exact h.2.2.1.2
theorem qc0 {b:qm} (h:blockB b=true):designB b.Aq b.Ab=true:=by
 unfold blockB at h;simp only [jg] at h;exact h.1.1
end Go.Fw
